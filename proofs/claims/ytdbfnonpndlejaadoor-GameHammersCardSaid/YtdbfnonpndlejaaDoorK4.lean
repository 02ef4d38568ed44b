/- Clock.Out walked. -/
import Derived.Test.YtdbfnonpndlejaaDoorK3
namespace Go.Proofs.YtdbfnonpndlejaaDoor
open Go.RowKit

theorem ClkOk.len {N : Nat} {c : ClkD} (h : ClkOk N c) : 0 ≤ c.t.len ∧ c.t.len ≤ 100000 := by
  have := h.t
  simp [TimesD.ok, inB] at this
  omega
set_option maxHeartbeats 1000000 in
theorem out_any (B : Nat) (c : ClkD) (team t : Int) (w : World) (hc : CObj w B c) (N : Nat) (hN : N ≤ 1000) (ho : ClkOk N c) :
    Calls Tryd.prog 27 #[.pointer (some ⟨B, 0, none⟩), .int .i64 team, .int .i64 t] w fun e w' => e = .returned (.int .i64 (c.out team t).2) ∧ CPost B (c.out team t).1 w w' := by
  have HC := hid hc
  have HW := hid (wrong_any B c team t w hc)
  have HS := hid (ClkD.out.eq_1 c team t)
  by_cases hz : c.wrong team t = 0
  · obtain ⟨hk, ht⟩ := wrong_zero hz
    rw [if_pos hz] at HS
    rw [hz] at HW
    have HP := hid (pass_any B c t w hc N hN ho ht)
    obtain ⟨t1, t2⟩ := ht
    have hnw := ho.now.1
    have ht0 : 0 ≤ t := by omega
    by_cases hct : c.team = team ∧ c.til ≤ t
    · rw [if_pos hct] at HS
      rcases hk with rfl | rfl
      · have d7 : w.cell? ⟨B, 7, none⟩ = some (.int .i64 c.o0) := hc.cell 7
        have c9' : w.cell? ⟨B, 9, none⟩ = some (.int .i64 0) := hc.cell 9 |>.trans (by rw [← hct.1]; rfl)
        have c11 : w.cell? ⟨B, 11, none⟩ = some (.int .i64 c.til) := hc.cell 11
        have hti := hct.2
        have hln := ho.len
        have HCT := hid hct.1
        clear hz hc hct
        by_cases hl : c.o0 = 0
        · rw [if_pos (show c.outs 0 = 0 from hl)] at HS
          rw [hl] at d7
          clear hl ho
          generalize c.til = til at c11 hti
          go_enter Tryd.func27, Tryd.ntmps27
          go_wp2_with fail
          refine HW.out.mono ?_
          rintro e w' ⟨rfl, rfl⟩
          go_wp2_with fail
          go_ret
          rw [HS.out]
          exact ⟨rfl, CPost.refl HC.out⟩
        · rw [if_neg (show ¬ c.outs 0 = 0 from hl)] at HS
          have hl' : (c.o0 == 0) = false := by simpa using hl
          have hob := ho.o0
          obtain ⟨ob0, ob1⟩ := hob
          clear hl ho
          have HAR := hid (show (c.pass t).arr = #[.int .i64 c.t.total, .int .i64 c.t.extra, .int .i64 c.t.outs, .int .i64 c.t.len, .bool true, .int .i64 (c.pass t).l0, .int .i64 (c.pass t).l1, .int .i64 c.o0, .int .i64 c.o1, .int .i64 c.team, .int .i64 t, .int .i64 c.til] from rfl)
          have HNX := hid (show ({ c.pass t with o0 := c.o0 - (if (0 : Int) = 0 then 1 else 0), o1 := c.o1 - (if (0 : Int) = 0 then 0 else 1), til := t + c.t.len } : ClkD).arr = #[.int .i64 c.t.total, .int .i64 c.t.extra, .int .i64 c.t.outs, .int .i64 c.t.len, .bool true, .int .i64 (c.pass t).l0, .int .i64 (c.pass t).l1, .int .i64 (c.o0 - 1), .int .i64 c.o1, .int .i64 c.team, .int .i64 t, .int .i64 (t + c.t.len)] by simp [ClkD.arr, ClkD.pass])
          generalize c.o0 = oo at *
          generalize c.til = til at *
          generalize c.t.len = ln at *
          have hwo : IntKind.i64.wrap (oo - 1) = oo - 1 := IntWalk.i64_in _ (by omega)
          go_enter Tryd.func27, Tryd.ntmps27
          go_wp2_with fail
          refine HW.out.mono ?_
          rintro e w' ⟨rfl, rfl⟩
          go_wp2_with fail
          refine HP.out.mono ?_
          rintro e w' ⟨⟨v, rfl⟩, hc1, ho1⟩
          have e3 : w'.cell? ⟨B, 3, none⟩ = some (.int .i64 ln) := (hc1.cell 3).trans (by rw [HAR.out]; rfl)
          have e7 : w'.cell? ⟨B, 7, none⟩ = some (.int .i64 oo) := (hc1.cell 7).trans (by rw [HAR.out]; rfl)
          have e11 : w'.cell? ⟨B, 11, none⟩ = some (.int .i64 til) := (hc1.cell 11).trans (by rw [HAR.out]; rfl)
          have g7 := hc1.frozen 7
          have g11 := hc1.frozen 11
          have HC1 := hid hc1
          have HO1 := hid ho1
          clear hc1 ho1 d7 c9' c11
          go_wp2_with fail
          go_region
          all_goals
            clear hwo
            go_wp2_with fail
            go_ret
            rw [HS.out]
            exact ⟨rfl, CObj.of (heap_setCell_same _ B 11 _ 72 _ (HC1.out.set 7 (.int .i64 (oo - 1)))) (by rw [HAR.out, HNX.out]; rfl), (only_drew (HO1.out.setCell 7 (.int .i64 (oo - 1)))).setCell 11 _⟩
      · have d8 : w.cell? ⟨B, 8, none⟩ = some (.int .i64 c.o1) := hc.cell 8
        have c9' : w.cell? ⟨B, 9, none⟩ = some (.int .i64 1) := hc.cell 9 |>.trans (by rw [← hct.1]; rfl)
        have c11 : w.cell? ⟨B, 11, none⟩ = some (.int .i64 c.til) := hc.cell 11
        have hti := hct.2
        have hln := ho.len
        have HCT := hid hct.1
        clear hz hc hct
        by_cases hl : c.o1 = 0
        · rw [if_pos (show c.outs 1 = 0 from hl)] at HS
          rw [hl] at d8
          clear hl ho
          generalize c.til = til at c11 hti
          go_enter Tryd.func27, Tryd.ntmps27
          go_wp2_with fail
          refine HW.out.mono ?_
          rintro e w' ⟨rfl, rfl⟩
          go_wp2_with fail
          go_ret
          rw [HS.out]
          exact ⟨rfl, CPost.refl HC.out⟩
        · rw [if_neg (show ¬ c.outs 1 = 0 from hl)] at HS
          have hl' : (c.o1 == 0) = false := by simpa using hl
          have hob := ho.o1
          obtain ⟨ob0, ob1⟩ := hob
          clear hl ho
          have HAR := hid (show (c.pass t).arr = #[.int .i64 c.t.total, .int .i64 c.t.extra, .int .i64 c.t.outs, .int .i64 c.t.len, .bool true, .int .i64 (c.pass t).l0, .int .i64 (c.pass t).l1, .int .i64 c.o0, .int .i64 c.o1, .int .i64 c.team, .int .i64 t, .int .i64 c.til] from rfl)
          have HNX := hid (show ({ c.pass t with o0 := c.o0 - (if (1 : Int) = 0 then 1 else 0), o1 := c.o1 - (if (1 : Int) = 0 then 0 else 1), til := t + c.t.len } : ClkD).arr = #[.int .i64 c.t.total, .int .i64 c.t.extra, .int .i64 c.t.outs, .int .i64 c.t.len, .bool true, .int .i64 (c.pass t).l0, .int .i64 (c.pass t).l1, .int .i64 c.o0, .int .i64 (c.o1 - 1), .int .i64 c.team, .int .i64 t, .int .i64 (t + c.t.len)] by simp [ClkD.arr, ClkD.pass])
          generalize c.o1 = oo at *
          generalize c.til = til at *
          generalize c.t.len = ln at *
          have hwo : IntKind.i64.wrap (oo - 1) = oo - 1 := IntWalk.i64_in _ (by omega)
          go_enter Tryd.func27, Tryd.ntmps27
          go_wp2_with fail
          refine HW.out.mono ?_
          rintro e w' ⟨rfl, rfl⟩
          go_wp2_with fail
          refine HP.out.mono ?_
          rintro e w' ⟨⟨v, rfl⟩, hc1, ho1⟩
          have e3 : w'.cell? ⟨B, 3, none⟩ = some (.int .i64 ln) := (hc1.cell 3).trans (by rw [HAR.out]; rfl)
          have e8 : w'.cell? ⟨B, 8, none⟩ = some (.int .i64 oo) := (hc1.cell 8).trans (by rw [HAR.out]; rfl)
          have e11 : w'.cell? ⟨B, 11, none⟩ = some (.int .i64 til) := (hc1.cell 11).trans (by rw [HAR.out]; rfl)
          have g8 := hc1.frozen 8
          have g11 := hc1.frozen 11
          have HC1 := hid hc1
          have HO1 := hid ho1
          clear hc1 ho1 d8 c9' c11
          go_wp2_with fail
          go_region
          all_goals
            clear hwo
            go_wp2_with fail
            go_ret
            rw [HS.out]
            exact ⟨rfl, CObj.of (heap_setCell_same _ B 11 _ 72 _ (HC1.out.set 8 (.int .i64 (oo - 1)))) (by rw [HAR.out, HNX.out]; rfl), (only_drew (HO1.out.setCell 8 (.int .i64 (oo - 1)))).setCell 11 _⟩
    · rw [if_neg hct] at HS
      have c9 : w.cell? ⟨B, 9, none⟩ = some (.int .i64 c.team) := hc.cell 9
      have c11 : w.cell? ⟨B, 11, none⟩ = some (.int .i64 c.til) := hc.cell 11
      clear hz hc ho
      generalize c.team = tm at c9 hct
      generalize c.til = til at c11 hct
      by_cases hne : tm = team
      · have hne' : (tm != team) = false := by simpa using hne
        have htl : decide (til > t) = true := by simp; omega
        clear hne hct hnw
        go_enter Tryd.func27, Tryd.ntmps27
        go_wp2_with fail
        refine HW.out.mono ?_
        rintro e w' ⟨rfl, rfl⟩
        go_wp2_with fail
        go_ret
        rw [HS.out]
        exact ⟨rfl, CPost.refl HC.out⟩
      · have hne' : (tm != team) = true := by simpa using hne
        clear hne hct hnw c11
        go_enter Tryd.func27, Tryd.ntmps27
        go_wp2_with fail
        refine HW.out.mono ?_
        rintro e w' ⟨rfl, rfl⟩
        go_wp2_with fail
        go_ret
        rw [HS.out]
        exact ⟨rfl, CPost.refl HC.out⟩
  · rw [if_neg hz] at HS
    have hz' : (c.wrong team t != 0) = true := by simpa using hz
    clear hz hc ho
    generalize c.wrong team t = E at *
    go_enter Tryd.func27, Tryd.ntmps27
    go_wp2_with fail
    refine HW.out.mono ?_
    rintro e w' ⟨rfl, rfl⟩
    go_wp2_with fail
    go_ret
    rw [HS.out]
    exact ⟨rfl, CPost.refl HC.out⟩
end Go.Proofs.YtdbfnonpndlejaaDoor
