/- The document's Left walked. -/
import Derived.Test.YtdbfnonpndlejaaDoorK6
namespace Go.Proofs.YtdbfnonpndlejaaDoor
open Go.RowKit
theorem one_robj (w : World) (c : ClkD) (cs : Array Value) (h1 : cs = c.vals) : RObj (w.alloc (.cells cs 64)) w.heap.size c := by
  subst h1
  exact heap_alloc_new w _
set_option maxRecDepth 100000 in
set_option maxHeartbeats 1000000 in
theorem refLeft_any (c : ClkD) (team t : Int) (w : World) (N : Nat) (hN : N ≤ 1000) (ho : ClkOk N c) :
    Calls Tryd.prog 36 #[c.val, .int .i64 team, .int .i64 t] w fun e w' => e = .returned (.tuple #[.int .i64 (c.leftR team t), .int .i64 (c.wrong team t)]) ∧ Below w.heap.size w w' := by
  have HT := hid (fun W => timed_any c t W)
  have HS := hid (ClkD.leftR.eq_1 c team t)
  obtain ⟨b1, h1⟩ : ∃ b, inB team 0 1 = b := ⟨_, rfl⟩
  obtain ⟨b2, h2⟩ : ∃ b, inB t c.now 1073741824 = b := ⟨_, rfl⟩
  have hw := wrong_of c team t b1 b2 h1 h2
  rw [h2] at HT
  have HP := hid (fun W h => passed_any c t W N hN ho h)
  rw [show c.val = .agg #[.int .i64 c.t.total, .int .i64 c.t.extra, .int .i64 c.t.outs, .int .i64 c.t.len, .int .i64 c.l0, .int .i64 c.l1, .int .i64 c.o0, .int .i64 c.o1, .int .i64 c.now, .int .i64 c.team, .int .i64 c.til] from rfl] at HT HP ⊢
  cases b1 with
  | false =>
    rw [hw, if_neg (by simp)] at HS
    have HW := hid hw
    clear hw ho
    go_enter Tryd.func36, Tryd.ntmps36
    go_wp2_with (go_at_call 42; refine (in_any _ _ _ _).mono ?_; rintro e w' ⟨rfl, rfl⟩)
    go_ret2
    exact ⟨by rw [HS.out, HW.out]; rfl, (Below.refl _ _).alloc (Nat.le_refl _) _⟩
  | true =>
    cases b2 with
    | false =>
      rw [hw, if_neg (by simp)] at HS
      have HW := hid hw
      clear hw ho
      go_enter Tryd.func36, Tryd.ntmps36
      go_wp2_with (go_at_call 42; refine (in_any _ _ _ _).mono ?_; rintro e w' ⟨rfl, rfl⟩)
      refine (HT.out _).mono ?_
      rintro e w1 ⟨rfl, hb1⟩
      have HB1 := hid (((Below.refl _ _).alloc (Nat.le_refl _) _).trans (hb1.mono (by simp)))
      have HR0 := hid ((one_robj w c #[.int .i64 c.t.total, .int .i64 c.t.extra, .int .i64 c.t.outs, .int .i64 c.t.len, .int .i64 c.l0, .int .i64 c.l1, .int .i64 c.o0, .int .i64 c.o1, .int .i64 c.now, .int .i64 c.team, .int .i64 c.til] rfl).below hb1)
      obtain ⟨c0, c1, c2, c3, c4, c5, c6, c7, c8, c9, c10, cf⟩ := cells11 HR0.out
      clear hb1
      go_wp2_with fail
      go_ret2
      exact ⟨by rw [HS.out, HW.out]; rfl, HB1.out⟩
    | true =>
      have hz : c.wrong team t = 0 := hw
      obtain ⟨hk, ht⟩ := wrong_zero hz
      rw [hz, if_pos rfl] at HS
      have HW := hid hz
      have HTT := hid ht
      obtain ⟨q, hq⟩ : ∃ q, q = c.pass t := ⟨_, rfl⟩
      rw [← hq] at HP
      rw [show q.val = .agg #[.int .i64 q.t.total, .int .i64 q.t.extra, .int .i64 q.t.outs, .int .i64 q.t.len, .int .i64 q.l0, .int .i64 q.l1, .int .i64 q.o0, .int .i64 q.o1, .int .i64 q.now, .int .i64 q.team, .int .i64 q.til] from rfl] at HP
      have HQE := hid hq
      clear hq
      clear hw ho hz ht
      have hfld : ∀ (a0 a1 a2 a3 a4 a5 a6 a7 a8 a9 a10 : Int) (w : World), (Instr.field 64 (.agg #[.int .i64 a0, .int .i64 a1, .int .i64 a2, .int .i64 a3, .int .i64 a4, .int .i64 a5, .int .i64 a6, .int .i64 a7, .int .i64 a8, .int .i64 a9, .int .i64 a10]) 1).run Tryd.prog w = .ok (.agg #[.int .i64 a4, .int .i64 a5]) w := fun _ _ _ _ _ _ _ _ _ _ _ _ => by kernel_rfl
      have hix0 : ∀ (a b : Int) (w : World), (Instr.index 26 (.agg #[.int .i64 a, .int .i64 b]) (.int .i64 0)).run Tryd.prog w = .ok (.int .i64 a) w := fun _ _ _ => by kernel_rfl
      have hix1 : ∀ (a b : Int) (w : World), (Instr.index 26 (.agg #[.int .i64 a, .int .i64 b]) (.int .i64 1)).run Tryd.prog w = .ok (.int .i64 b) w := fun _ _ _ => by kernel_rfl
      rcases hk with rfl | rfl
      all_goals
        go_enter Tryd.func36, Tryd.ntmps36
        go_wp2_with (go_at_call 42; refine (in_any _ _ _ _).mono ?_; rintro e w' ⟨rfl, rfl⟩)
        refine (HT.out _).mono ?_
        rintro e w1 ⟨rfl, hb1⟩
        have HB1 := hid (((Below.refl _ _).alloc (Nat.le_refl _) _).trans (hb1.mono (by simp)))
        have HR0 := hid ((one_robj w c #[.int .i64 c.t.total, .int .i64 c.t.extra, .int .i64 c.t.outs, .int .i64 c.t.len, .int .i64 c.l0, .int .i64 c.l1, .int .i64 c.o0, .int .i64 c.o1, .int .i64 c.now, .int .i64 c.team, .int .i64 c.til] rfl).below hb1)
        obtain ⟨c0, c1, c2, c3, c4, c5, c6, c7, c8, c9, c10, cf⟩ := cells11 HR0.out
        clear hb1
        go_wp2_with fail
        refine (HP.out _ HTT.out).mono ?_
        rintro e w2 ⟨rfl, hb2⟩
        have HB2 := hid (HB1.out.trans (hb2.mono HB1.out.size))
        clear hb2
        go_wp2_with fail
        go_ret2
        exact ⟨by rw [HS.out, HW.out]; have hq := HQE.out; subst hq; rfl, HB2.out⟩
end Go.Proofs.YtdbfnonpndlejaaDoor
