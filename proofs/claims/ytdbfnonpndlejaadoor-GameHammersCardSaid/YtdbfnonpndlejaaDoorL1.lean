/- Calls of a clock, as data; whether two clocks are alike. -/
import Derived.Test.YtdbfnonpndlejaaDoorK7
import Derived.Test.YtdbfnonpndlejaaDoorK8
import Derived.Test.YtdbfnonpndlejaaDoorK9
import Derived.Test.YtdbfnonpndlejaaDoorK10
import Derived.Test.YtdbfnonpndlejaaDoorK11
import Derived.Test.YtdbfnonpndlejaaDoorK12
namespace Go.Proofs.YtdbfnonpndlejaaDoor
open Go.RowKit

theorem flat_get {α : Type} (f : α → List Value) (s : Nat) (hs : ∀ x, (f x).length = s) (l : List α) : ∀ (j : Nat) (h : j < l.length) (c : Nat) (_ : c < s), (l.flatMap f)[j * s + c]? = (f l[j])[c]? := by
  induction l with
  | nil => intro j h; simp at h
  | cons m l ih =>
    intro j h c hc
    cases j with
    | zero =>
      simp only [List.flatMap_cons, Nat.zero_mul, Nat.zero_add, List.getElem_cons_zero]
      rw [List.getElem?_append_left (by rw [hs]; exact hc)]
    | succ j =>
      have h' : j < l.length := by simpa using h
      simp only [List.flatMap_cons, List.getElem_cons_succ]
      rw [List.getElem?_append_right (by rw [hs, Nat.succ_mul]; omega), hs, ← ih j h' c hc]
      congr 1
      rw [Nat.succ_mul]; omega
/-- The cells of the elements of a slice. -/
theorem SlV.elems {α : Type} {w : World} {v : Value} {l : List α} {f : α → List Value} {s : Nat} (hs : ∀ x, (f x).length = s) (h : SlV w v l.length (l.flatMap f)) :
    ∃ a cap, v = .slice a l.length cap ∧ l.length ≤ 140737488351232 ∧ ∀ k, k < l.length → ∃ b off, a = some ⟨b, off, none⟩ ∧ b < w.heap.size ∧
      ∀ j (h : j < l.length) c, c < s → w.cell? ⟨b, off + (j * s + c), none⟩ = (f l[j])[c]? := by
  obtain ⟨a, cap, rfl, hn, hc⟩ := h
  refine ⟨a, cap, rfl, hn, fun k hk => ?_⟩
  rcases hc with hc | ⟨b, off, rfl, hlt, hc⟩
  · omega
  · refine ⟨b, off, rfl, hlt, fun j hj c hcs => ?_⟩
    have h1 := flat_get f s hs l j hj c hcs
    have hlen : c < (f l[j]).length := by rw [hs]; exact hcs
    rw [List.getElem?_eq_getElem hlen] at h1 ⊢
    obtain ⟨h2, h3⟩ := List.getElem?_eq_some_iff.1 h1
    rw [hc _ h2, h3]
structure PressD where
  what : Int
  team : Int
  t : Int
  later : Bool
def PressD.cells (x : PressD) : List Value := [.int .i64 x.what, .int .i64 x.team, .int .i64 x.t, .bool x.later]
def SlP (w : World) (v : Value) (l : List PressD) : Prop := SlV w v l.length (l.flatMap PressD.cells)
theorem SlP.below {w w' : World} {v : Value} {l : List PressD} (h : SlP w v l) (hb : Below w.heap.size w w') : SlP w' v l := SlV.below h hb
theorem SlP.open {w : World} {v : Value} {l : List PressD} (h : SlP w v l) :
    ∃ a cap, v = .slice a l.length cap ∧ l.length ≤ 140737488351232 ∧ ∀ k, k < l.length → ∃ b off, a = some ⟨b, off, none⟩ ∧ b < w.heap.size ∧
      ∀ j (h : j < l.length), w.cell? ⟨b, off + j * 4, none⟩ = some (.int .i64 l[j].what) ∧ w.cell? ⟨b, off + j * 4 + 1, none⟩ = some (.int .i64 l[j].team) ∧ w.cell? ⟨b, off + j * 4 + 2, none⟩ = some (.int .i64 l[j].t) ∧ w.cell? ⟨b, off + j * 4 + 3, none⟩ = some (.bool l[j].later) := by
  obtain ⟨a, cap, rfl, hn, hc⟩ := SlV.elems (s := 4) (fun _ => rfl) h
  refine ⟨a, cap, rfl, hn, fun k hk => ?_⟩
  obtain ⟨b, off, rfl, hlt, hc⟩ := hc k hk
  refine ⟨b, off, rfl, hlt, fun j hj => ⟨hc j hj 0 (by omega), ?_, ?_, ?_⟩⟩
  · exact hc j hj 1 (by omega)
  · exact hc j hj 2 (by omega)
  · exact hc j hj 3 (by omega)
def PressD.at (x : PressD) (now : Int) : Int := if x.later then now + x.t else x.t
theorem at_law_any (x : PressD) (now : Int) (w : World) (hn : 0 ≤ now ∧ now ≤ 1073741824) (ht : -1099511627776 ≤ x.t ∧ x.t ≤ 1099511627776) :
    Calls Tryd.prog 23 #[.agg #[.int .i64 x.what, .int .i64 x.team, .int .i64 x.t, .bool x.later], .int .i64 now] w fun e w' => e = .returned (.int .i64 (x.at now)) ∧ Below w.heap.size w w' := by
  have HX := hid (show x.at now = if x.later then now + x.t else x.t from rfl)
  obtain ⟨n1, n2⟩ := hn
  obtain ⟨t1, t2⟩ := ht
  generalize x.t = t at *
  generalize x.later = b at *
  go_enter Tryd.func23, Tryd.ntmps23
  cases b
  all_goals
    go_wp2
    go_ret
    exact ⟨ret_int (by rw [HX.out]; rfl), (Below.refl _ _).alloc (Nat.le_refl _) _⟩
set_option maxRecDepth 100000 in
set_option maxHeartbeats 1000000 in
theorem alike_any (B : Nat) (c : ClkD) (w : World) (hc : CObj w B c) (N : Nat) (hN : N ≤ 1000) (ho : ClkOk N c) :
    Calls Tryd.prog 37 #[.pointer (some ⟨B, 0, none⟩), c.val] w (True1 w) := by
  rw [show c.val = .agg #[.int .i64 c.t.total, .int .i64 c.t.extra, .int .i64 c.t.outs, .int .i64 c.t.len, .int .i64 c.l0, .int .i64 c.l1, .int .i64 c.o0, .int .i64 c.o1, .int .i64 c.now, .int .i64 c.team, .int .i64 c.til] from rfl]
  have HC := hid hc
  have HO := hid ho
  clear hc ho
  go_enter Tryd.func37, Tryd.ntmps37
  go_upto_region 1 with fail
  obtain ⟨W0, e0⟩ : ∃ W0, w.alloc (.cells #[.int .i64 c.t.total, .int .i64 c.t.extra, .int .i64 c.t.outs, .int .i64 c.t.len, .int .i64 c.l0, .int .i64 c.l1, .int .i64 c.o0, .int .i64 c.o1, .int .i64 c.now, .int .i64 c.team, .int .i64 c.til] 64) = W0 := ⟨_, rfl⟩
  have HR := hid (show RObj W0 w.heap.size c by rw [← e0]; exact one_robj w c _ rfl)
  have HB := hid (show Below w.heap.size w W0 by rw [← e0]; exact (Below.refl _ _).alloc (Nat.le_refl _) _)
  have HC0 := hid (HC.out.below HB.out)
  rw [e0]
  clear e0
  obtain ⟨c0, c1, c2, c3, c4, c5, c6, c7, c8, c9, c10, cf⟩ := cells11 HR.out
  go_wp2_with fail
  refine (running_any B c W0 HC0.out).mono ?_
  rintro e w1 ⟨rfl, n, rfl⟩
  have HBN := hid (show Below W0.heap.size W0 (W0.drewN n) from drewNB (Below.refl _ _) n)
  generalize W0.drewN n = W1 at *
  have HR1 := hid (HR.out.below HBN.out)
  clear c0 c1 c2 c3 c4 c5 c6 c7 c8 c9 c10 cf
  obtain ⟨c0, c1, c2, c3, c4, c5, c6, c7, c8, c9, c10, cf⟩ := cells11 HR1.out
  have HT := hid (show c.now ≤ c.now ∧ c.now ≤ 1073741824 from ⟨Int.le_refl _, HO.out.now.2⟩)
  go_wp2_with fail
  go_loopw [7] (fun i wr => ∃ j : Int, -1 ≤ j ∧ j ≤ 3 ∧ i = .int .i64 j ∧ Below W0.heap.size W0 wr) (fun i _ => (3 - intOf i).toNat)
  case atStart => exact ⟨-1, by omega, by omega, rfl, HBN.out⟩
  case round =>
    obtain ⟨j, hj1, hj2, rfl, hbr⟩ := hrel
    obtain ⟨wo, rfl⟩ : ∃ wo, wo = wr := ⟨_, rfl⟩
    have HBR := hid hbr
    have HRR := hid (HR.out.below hbr)
    have HCR := hid (HC0.out.below hbr)
    clear hbr c0 c1 c2 c3 c4 c5 c6 c7 c8 c9 c10 cf
    obtain ⟨c0, c1, c2, c3, c4, c5, c6, c7, c8, c9, c10, cf⟩ := cells11 HRR.out
    by_cases hlt : j ≤ 2
    · go_wp2_with fail
      refine (left_any B c j c.now wo HCR.out N hN HO.out).mono ?_
      rintro e w1 ⟨rfl, n1, rfl⟩
      go_wp2_with fail
      refine (refLeft_any c j c.now (wo.drewN n1) N hN HO.out).mono ?_
      rintro e w2 ⟨rfl, hb2⟩
      have HB2 := hid ((drewNB HBR.out n1).trans (hb2.mono HBR.out.size))
      have HC2 := hid (HC0.out.below HB2.out)
      have HR2 := hid (HR.out.below HB2.out)
      clear hb2 c0 c1 c2 c3 c4 c5 c6 c7 c8 c9 c10 cf
      obtain ⟨c0, c1, c2, c3, c4, c5, c6, c7, c8, c9, c10, cf⟩ := cells11 HR2.out
      go_wp2_with fail
      refine (outs_any B c j w2 HC2.out).mono ?_
      rintro e w3 ⟨rfl, n3, rfl⟩
      go_wp2_with fail
      refine (refOuts_any c j (w2.drewN n3)).mono ?_
      rintro e w4 ⟨rfl, hb4⟩
      have HB4 := hid ((drewNB HB2.out n3).trans (hb4.mono HB2.out.size))
      clear hb4 c0 c1 c2 c3 c4 c5 c6 c7 c8 c9 c10 cf
      generalize c.leftR j c.now = x1 at *
      generalize c.wrong j c.now = x2 at *
      generalize (c.outsR j).1 = x3 at *
      generalize (c.outsR j).2 = x4 at *
      go_wp2_with fail
      exact ⟨⟨j + 1, by omega, by omega, rfl, HB4.out⟩, by simp [intOf]; omega⟩
    · clear c0 c1 c2 c3 c4 c5 c6 c7 c8 c9 c10 cf
      go_wp2_with fail
      go_ret
      exact ⟨rfl, HB.out.trans (HBR.out.mono HB.out.size)⟩
end Go.Proofs.YtdbfnonpndlejaaDoor
