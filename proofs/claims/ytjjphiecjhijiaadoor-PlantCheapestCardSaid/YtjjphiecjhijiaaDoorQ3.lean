import Derived.Test.YtjjphiecjhijiaaDoorQ2
import Derived.Test.YtjjphiecjhijiaaDoorN2
namespace Go.Proofs.YtjjphiecjhijiaaDoor
open Go.RowKit Go.Maps
attribute [local go_sem] alloc_drewN setCell_drewN

/-- What is known of sets of sets. -/
def MemoN (U : Nat → Nat → Int) (n : Nat) (w : World) (bm : Nat) : Prop :=
  ∃ M, MapF encU w bm M ∧ ∀ s v, M s = some v → v = .int .i64 (mN U (elems s).length (elems s) (n - (elems s).length))
theorem MemoN.below {U : Nat → Nat → Int} {n : Nat} {w w' : World} {bm : Nat} (h : MemoN U n w bm) (hb : Below w.heap.size w w') : MemoN U n w' bm := by
  obtain ⟨M, h1, h2⟩ := h
  exact ⟨M, h1.below' hb, h2⟩
theorem MemoN.lt {U : Nat → Nat → Int} {n : Nat} {w : World} {bm : Nat} (h : MemoN U n w bm) : bm < w.heap.size := by obtain ⟨M, h1, _⟩ := h; exact h1.lt
theorem MemoN.row {U : Nat → Nat → Int} {n : Nat} {w : World} {bm : Nat} (h : MemoN U n w bm) : ∀ r, some bm = some r → ∃ o : Obj, w.heap[r]? = some o ∧ o.isCells = false := by obtain ⟨M, h1, _⟩ := h; exact map_row h1
theorem MemoN.made (U : Nat → Nat → Int) (n : Nat) (w : World) : MemoN U n (w.alloc (.map #[] 0)) w.heap.size := ⟨_, MapF.made w, fun _ _ h => by cases h⟩
theorem MemoN.look {U : Nat → Nat → Int} {n : Nat} {w : World} {bm : Nat} (h : MemoN U n w bm) (s : Nat) :
    ∃ (x : Int) (o : Bool), (∀ w', Below w.heap.size w w' → (Instr.lookup 105 (.map (some bm)) (.int .u64 s) true).run Tryd.prog w' = .ok (.tuple #[.int .i64 x, .bool o]) w') ∧ (o = true → x = mN U (elems s).length (elems s) (n - (elems s).length)) := by
  obtain ⟨M, h1, h2⟩ := h
  have hz : ∀ w' : World, (zeroValue 3).run Tryd.prog w' = .ok (.int .i64 0) w' := fun w' => by kernel_rfl
  have hl := fun w' (hb : Below w.heap.size w w') => MapF.lookup_ok keyU107 Tryd.underlying105 (h1.below' hb) (hz w') s
  cases e : M s with
  | none =>
    refine ⟨0, false, fun w' hb => ?_, by simp⟩
    have := hl w' hb; rw [e] at this; exact this
  | some v =>
    have hv := h2 _ _ e
    subst hv
    refine ⟨_, true, fun w' hb => ?_, fun _ => rfl⟩
    have := hl w' hb; rw [e] at this; exact this
theorem MemoN.add {U : Nat → Nat → Int} {n : Nat} {w : World} {bm : Nat} (h : MemoN U n w bm) (s : Nat) (x : Int) (hx : x = mN U (elems s).length (elems s) (n - (elems s).length)) :
    ∃ w', (Instr.mapUpdate 105 (.map (some bm)) (.int .u64 s) (.int .i64 x)).run Tryd.prog w = .ok () w' ∧ MemoN U n w' bm ∧ w.grownBy w' (some bm) := by
  obtain ⟨M, h1, h2⟩ := h
  obtain ⟨w', hr', hm, hg, hs⟩ := MapF.update (P := Tryd.prog) keyU107 Tryd.underlying105 h1 s (.int .i64 x)
  refine ⟨w', hr', ⟨_, hm, ?_⟩, hg⟩
  intro y v hv
  by_cases e : y = s
  · rw [if_pos e] at hv
    obtain rfl := Option.some.inj hv
    rw [e, ← hx]
  · rw [if_neg e] at hv
    exact h2 _ _ hv
/-- What least finds in its captured variables. -/
structure NextW (U : Nat → Nat → Int) (w : World) (kb bb ub bm : Nat) : Prop where
  known : w.cell? ⟨kb, 0, none⟩ = some (.map (some bm))
  self : w.cell? ⟨bb, 0, none⟩ = some (.func (.func 55) #[] #[.pointer (some ⟨kb, 0, none⟩), .pointer (some ⟨bb, 0, none⟩), .pointer (some ⟨ub, 0, none⟩)])
  used : ∀ i j, i < 8 → j < 8 → w.cell? ⟨ub, i * 8 + j, none⟩ = some (.int .i64 (U i j))
  tab : TabW w
theorem NextW.kept {U : Nat → Nat → Int} {w w' : World} {kb bb ub bm : Nat} {row : Option Nat} (h : NextW U w kb bb ub bm) (hg : w.grownBy w' row) (hr : ∀ r, row = some r → ∃ o : Obj, w.heap[r]? = some o ∧ o.isCells = false) : NextW U w' kb bb ub bm :=
  ⟨cell_kept h.known hg hr, cell_kept h.self hg hr, fun i j hi hj => cell_kept (h.used i j hi hj) hg hr, h.tab.kept hg hr⟩
theorem NextW.below {U : Nat → Nat → Int} {w w' : World} {kb bb ub bm : Nat} (h : NextW U w kb bb ub bm) (hb : Below w.heap.size w w') : NextW U w' kb bb ub bm :=
  h.kept (row := none) (below_grown hb none) (fun r e => by cases e)
def LeastNPost (U : Nat → Nat → Int) (n bm : Nat) (x : Int) (w : World) (e : Ending) (w' : World) : Prop := e = .returned (.int .i64 x) ∧ MemoN U n w' bm ∧ w.grownBy w' (some bm)

set_option maxRecDepth 100000 in
set_option maxHeartbeats 1000000 in
/-- plant.Next$1: least. -/
theorem leastN_any (U : Nat → Nat → Int) (hU : uOk U) (n : Nat) (hn8 : n ≤ 8) (kb bb ub bm : Nat) (k : Nat) : ∀ (s : Nat) (w : World), k ≤ n → s < 256 → (elems s).length = k → NextW U w kb bb ub bm → MemoN U n w bm →
    Calls Tryd.prog 55 #[.int .u64 s, .int .i64 (n - k : Nat), .pointer (some ⟨kb, 0, none⟩), .pointer (some ⟨bb, 0, none⟩), .pointer (some ⟨ub, 0, none⟩)] w (LeastNPost U n bm (mN U k (elems s) (n - k)) w) := by
  induction k with
  | zero =>
    intro s w hkn hs hl hw hmem
    have hs0 : s = 0 := by
      apply Classical.byContradiction
      intro h
      exact elems_ne h (by omega) (List.length_eq_zero_iff.1 hl)
    subst hs0
    have HM := hid hmem
    clear hw hmem
    go_enter Tryd.func55, Tryd.ntmps55
    go_wp2_with fail
    go_ret
    exact ⟨rfl, HM.out, below_grown (Below.refl _ _) _⟩
  | succ k ih =>
    intro s w hkn hs hl hw hmem
    have HW := hid hw
    have HM := hid hmem
    have IH := hid ih
    have hs0 : s ≠ 0 := by
      rintro rfl
      rw [elems_zero] at hl; simp at hl
    have hs64 : s < 18446744073709551616 := by omega
    have hs0I : ((s : Int) == 0) = false := by simp; omega
    obtain ⟨x, o, hlk, hox⟩ := hmem.look s
    have hk := hw.known
    have hlk0 := hlk w (Below.refl _ _)
    have hbml := hmem.lt
    rw [hl] at hox
    have HOX := hid hox
    have HL := hid hl
    obtain ⟨sh, hsh⟩ : ∃ sh, n - (k + 1) = sh := ⟨_, rfl⟩
    have HSH := hid hsh
    have hsh8 : sh + k < 8 := by omega
    have hsn : n - k = sh + 1 := by omega
    have HSN := hid hsn
    rw [hsh]
    clear hlk hw hmem hox ih hl hsh hsn
    cases o with
    | true =>
      go_enter Tryd.func55, Tryd.ntmps55
      go_wp2_with fail
      go_ret
      exact ⟨ret_int (by rw [HOX.out trivial, HSH.out]), HM.out, below_grown (Below.refl _ _) _⟩
    | false =>
      go_enter Tryd.func55, Tryd.ntmps55
      go_wp2_with fail
      go_loopw [11, 10] (fun t a wr => ∃ (xs : Nat) (pre : List Nat), t = .int .u64 xs ∧ xs ≤ s ∧ elems s = pre ++ elems xs ∧ a = .int .i64 (foldN U k (elems s) sh pre) ∧ MemoN U n wr bm ∧ w.grownBy wr (some bm)) (fun t _ _ => (intOf t).toNat)
      case atStart => exact ⟨s, [], rfl, Nat.le_refl _, rfl, rfl, HM.out, below_grown (Below.refl _ _) _⟩
      case round =>
        obtain ⟨xs, pre, rfl, hxs, hpre, rfl, hmem, hg⟩ := hrel
        obtain ⟨w2, rfl⟩ : ∃ w2 : World, w2 = wr := ⟨_, rfl⟩
        have hbw := HW.out.kept hg HM.out.row
        have HPRE := hid hpre
        have HMM := hid hmem
        have HBW := hid hbw
        have HG := hid hg
        by_cases hx0 : xs = 0
        · subst hx0
          have hpf : pre = elems s := by have := HPRE.out; rw [elems_zero, List.append_nil] at this; exact this.symm
          obtain ⟨w3, hup, hmem3, hg3⟩ := HMM.out.add s (foldN U k (elems s) sh pre) (by rw [hpf, HL.out, HSH.out]; rfl)
          have q1 := hbw.known
          have H3 := hid (And.intro hmem3 hg3)
          have HFB := hid (show foldN U k (elems s) sh pre = mN U (k + 1) (elems s) sh by rw [hpf]; rfl)
          generalize foldN U k (elems s) sh pre = fb at *
          clear hmem3 hg3 hbw hmem hg hpf hpre
          go_wp2_with fail
          go_ret
          exact ⟨ret_int HFB.out, H3.out.1, HG.out.trans H3.out.2⟩
        · have hne : ((xs : Int) != 0) = true := by simp; omega
          have hx64 : xs < 18446744073709551616 := by omega
          have hb64 := low_lt xs hx0 hx64
          have hel2 := elems_low hx0 hx64
          have hclr := low_clr_lt xs hx0 hx64
          have hbm : low xs ∈ elems s := by rw [HPRE.out, hel2]; simp
          have hb8 := elems_lt (n := 8) (s := s) (by omega) (by omega) hbm
          have hf2 := fun w1 (hT : TabW w1) => first_p xs hx0 hx64 w1 hT
          have hw2 := fun w1 => without_p xs (low xs) w1 hx64 hb64
          have hw3 := fun w1 => without_p s (low xs) w1 hs64 hb64
          have he3 := elems_erase (i := low xs) hb64 hs64
          have hz := clr_le s (low xs)
          have hzl : ((elems s).erase (low xs)).length = k := by rw [List.length_erase_of_mem hbm, HL.out]; omega
          rw [← he3] at hzl
          generalize hb : low xs = b at *
          generalize hys : clr xs b = ys at *
          generalize hzs : clr s b = zs at *
          have HE := hid (And.intro hel2 he3)
          have HF2 := hid hf2
          have HW2 := hid hw2
          have HW3 := hid hw3
          have hbest := IH.out zs w2.drew (by omega) (by omega) hzl (hbw.below (Below.refl _ _).drew) (hmem.below (Below.refl _ _).drew)
          rw [HSN.out] at hbest
          have hmb := mN_bd hU k (elems zs) (sh + 1) hzl
          have HBEST := hid hbest
          have c1 := hbw.used sh b (by omega) hb8
          have k1 := hbw.self
          have huu := hU sh b
          have HST := hid (show foldN U k (elems s) sh (pre ++ [b]) = stepN (foldN U k (elems s) sh pre) (mN U k (elems zs) (sh + 1) + U sh b) by rw [foldN_snoc, he3])
          have hfbb : -1 ≤ foldN U k (elems s) sh pre ∧ foldN U k (elems s) sh pre ≤ 9000 := by
            rcases foldN_bd hU k (elems s) sh (fun x hx => mN_bd hU k _ _ (by rw [List.length_erase_of_mem hx, HL.out]; omega)) pre (fun z hz => by rw [HPRE.out]; simp [hz]) with ⟨_, e⟩ | ⟨_, e1, e2⟩
            · omega
            · omega
          have HKEEP := hid (fun w' (hg' : w2.drew.grownBy w' (some bm)) =>
            have hr : ∀ r, some bm = some r → ∃ o : Obj, w2.drew.heap[r]? = some o ∧ o.isCells = false := hmem.row
            And.intro (cell_kept (W := w2.drew) k1 hg' hr) (cell_kept (W := w2.drew) c1 hg' hr))
          clear hbest hb hys hzs hel2 he3 hf2 hw2 hw3 hbw hmem hg hbm hpre
          generalize mN U k (elems zs) (sh + 1) = mz at *
          generalize foldN U k (elems s) sh pre = fb at *
          generalize U sh b = ub1 at *
          go_wp2_with fail
          refine (HF2.out w2 HBW.out.tab).mono ?_
          rintro e w' ⟨rfl, rfl⟩
          go_upto_region 11 with fail
          have hi0 : (0 : Int) ≤ (sh : Int) := by omega
          have hi1 : (sh : Int) < 8 := by omega
          have hi2 : (0 : Int) ≤ (b : Int) := by omega
          have hi3 : (b : Int) < 8 := by omega
          have hwk : IntKind.i64.wrap ((sh : Int) + 1) = ((sh + 1 : Nat) : Int) := by rw [IntWalk.i64_in _ (by omega)]; omega
          have hwz : IntKind.i64.wrap (mz + ub1) = mz + ub1 := IntWalk.i64_in _ (by omega)
          go_cut [13] (fun t wx => t = .int .i64 (mz + ub1) ∧ MemoN U n wx bm ∧ w2.grownBy wx (some bm))
          case first =>
            go_region_held3 (fun w' => w'.cell? ⟨bb, 0, none⟩ = some (.func (.func 55) #[] #[.pointer (some ⟨kb, 0, none⟩), .pointer (some ⟨bb, 0, none⟩), .pointer (some ⟨ub, 0, none⟩)]) ∧ w'.cell? ⟨ub, sh * 8 + b, none⟩ = some (.int .i64 ub1))
              (first | (exact HK3) | assumption | (exact ⟨k1, c1⟩))
              (first
                | (go_at_call 56; with_reducible refine (HW3.out _).mono ?_; rintro e w' ⟨rfl, rfl⟩)
                | (go_at_call 55; refine HBEST.out.mono ?_; rintro e w3 ⟨rfl, hm3, hg3⟩; have HK3 := HKEEP.out w3 hg3))
            all_goals
              go_wp2_with fail
              go_meet
              exact ⟨rfl, hm3, ⟨hg3.os, hg3.tape, hg3.output, hg3.size, hg3.block⟩⟩
          case rest =>
            obtain ⟨rfl, hm3, hg3⟩ := hcut
            obtain ⟨w3, rfl⟩ : ∃ w3 : World, w3 = wc := ⟨_, rfl⟩
            have HR := hid (And.intro hm3 (HG.out.trans hg3))
            have hr3 := HMM.out.row
            have HT3 := hid (HBW.out.kept hg3 hr3).tab
            have HNEW := hid (show elems s = (pre ++ [b]) ++ elems ys by rw [HPRE.out, HE.out.1]; simp)
            have hyx : ys < xs := hclr
            clear hm3 hg3 hr3 hwk hwz k1 c1
            have hSb : 0 ≤ mz + ub1 ∧ mz + ub1 ≤ 10000 := by omega
            generalize hS : mz + ub1 = S at *
            clear hS
            by_cases hb1 : fb < 0
            · have hb1' : decide (fb < 0) = true := by simp [hb1]
              have HS := hid (show stepN fb S = S by unfold stepN; rw [if_pos (.inl hb1)])
              go_wp2_with fail
              refine (HF2.out w3 HT3.out).mono ?_
              rintro e w' ⟨rfl, rfl⟩
              go_wp2_with fail
              refine (HW2.out w3).mono ?_
              rintro e w' ⟨rfl, rfl⟩
              go_wp2_with fail
              exact ⟨⟨ys, pre ++ [b], rfl, by omega, HNEW.out, by rw [HST.out, HS.out], HR.out.1, HR.out.2⟩, by simp [intOf]; omega⟩
            · have hb1' : decide (fb < 0) = false := by simp [hb1]
              by_cases hb2 : S < fb
              · have hb2' : decide (S < fb) = true := by simp [hb2]
                have HS := hid (show stepN fb S = S by unfold stepN; rw [if_pos (.inr hb2)])
                go_wp2_with fail
                refine (HF2.out w3 HT3.out).mono ?_
                rintro e w' ⟨rfl, rfl⟩
                go_wp2_with fail
                refine (HW2.out w3).mono ?_
                rintro e w' ⟨rfl, rfl⟩
                go_wp2_with fail
                exact ⟨⟨ys, pre ++ [b], rfl, by omega, HNEW.out, by rw [HST.out, HS.out], HR.out.1, HR.out.2⟩, by simp [intOf]; omega⟩
              · have hb2' : decide (S < fb) = false := by simp [hb2]
                have HS := hid (show stepN fb S = fb by unfold stepN; rw [if_neg (by omega)])
                go_wp2_with fail
                refine (HF2.out w3 HT3.out).mono ?_
                rintro e w' ⟨rfl, rfl⟩
                go_wp2_with fail
                refine (HW2.out w3).mono ?_
                rintro e w' ⟨rfl, rfl⟩
                go_wp2_with fail
                exact ⟨⟨ys, pre ++ [b], rfl, by omega, HNEW.out, by rw [HST.out, HS.out], HR.out.1, HR.out.2⟩, by simp [intOf]; omega⟩
end Go.Proofs.YtjjphiecjhijiaaDoor
