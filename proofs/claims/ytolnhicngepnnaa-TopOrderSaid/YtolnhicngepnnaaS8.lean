/- Insertion sort over ints, by a comparison. -/
import Derived.Test.YtolnhicngepnnaaS7
import Derived.BigRegion
namespace Go.Proofs.Ytolnhicngepnnaa
open Go.RowKit
attribute [local go_sem] alloc_drewN setCell_drewN

theorem grown_trans {a b c : World} {r : Option Nat} (h : a.grownBy b r) (k : b.grownBy c r) : a.grownBy c r :=
  ⟨k.os.trans h.os, k.tape.trans h.tape, k.output.trans h.output, Nat.le_trans h.size k.size, fun i hi hne => (k.block i (Nat.lt_of_lt_of_le hi h.size) hne).trans (h.block i hi hne)⟩
theorem grown_below {a b : World} {r : Option Nat} (h : Below a.heap.size a b) : a.grownBy b r := ⟨h.os, h.tape, h.output, h.size, fun i hi _ => h.block i hi⟩
theorem grown_set {a b : World} {g : Nat} (h : a.grownBy b (some g)) (j : Nat) (v : Value) : a.grownBy (b.setCell ⟨g, j, none⟩ v) (some g) :=
  ⟨h.os, h.tape, h.output, by simpa using h.size, fun i hi hne => (heap_setCell_other b ⟨g, j, none⟩ i v (fun e => hne (by rw [e]))).trans (h.block i hi hne)⟩
theorem grown_drew {a b : World} {r : Option Nat} (h : a.grownBy b r) : a.grownBy b.drew r := ⟨h.os, h.tape, h.output, h.size, h.block⟩
/-- What a comparison must answer. -/
def CmpOk (p : Value) (g : Nat) (a : List Nat) (c : Nat → Nat → Int) (w : World) : Prop :=
  ∀ x y, x ∈ a → y ∈ a → ∀ W, w.grownBy W (some g) → Calls Try.prog 40 #[.int .i64 (x : Int), .int .i64 (y : Int), p] W fun e w' => e = .returned (.int .i64 (c x y)) ∧ Below W.heap.size W w'
set_option maxRecDepth 100000 in
set_option maxHeartbeats 4000000 in
theorem insert_any (p : Value) (g cap base : Nat) (a : List Nat) (c : Nat → Nat → Int) (w : World) (ha : 0 < a.length) (hlen : a.length ≤ 1000) (hown : w.ownsRow base 3 1 (.slice (some ⟨g, 0, none⟩) a.length cap) a.length (natsV a)) (hc : CmpOk p g a c w) :
    Calls Try.prog 81 #[.slice (some ⟨g, 0, none⟩) a.length cap, .int .i64 0, .int .i64 (a.length : Int), .func (.func 40) #[] #[p]] w fun e w' => e = .returned (.tuple #[]) ∧
      w'.ownsRow base 3 1 (.slice (some ⟨g, 0, none⟩) a.length cap) a.length (natsV (isort (fun x y => decide (c x y < 0)) a a.length)) ∧ w.grownBy w' (some g) := by
  have HC := hid hc
  have HOW0 := hid hown
  obtain ⟨lt, hlt⟩ : ∃ lt : Nat → Nat → Bool, (fun x y => decide (c x y < 0)) = lt := ⟨_, rfl⟩
  have HLT := hid (show ∀ x y, lt x y = decide (c x y < 0) from fun x y => by rw [← hlt])
  rw [hlt]
  clear hc hown hlt
  go_enter Try.func81, Try.ntmps81
  go_wp2_with fail
  go_loopw [8] (fun i wr => ∃ k : Nat, 1 ≤ k ∧ k ≤ a.length ∧ i = .int .i64 k ∧ wr.ownsRow base 3 1 (.slice (some ⟨g, 0, none⟩) a.length cap) a.length (natsV (isort lt a k)) ∧ w.grownBy wr (some g)) (fun i _ => a.length - (intOf i).toNat)
  case atStart => exact ⟨1, by omega, by omega, rfl, HOW0.out, grown_below (Below.refl _ _)⟩
  case round =>
    obtain ⟨k, hk1, hk, rfl, hown, hgr⟩ := hrel
    obtain ⟨wo, rfl⟩ : ∃ wo, wo = wr := ⟨_, rfl⟩
    have HOW := hid hown
    have HGR := hid hgr
    clear hown hgr
    by_cases hka : k < a.length
    · have hkI : (k : Int) < (a.length : Int) := by omega
      go_wp2_with fail
      go_loopw [9] (fun i wr => ∃ (j : Nat) (b : List Nat), j ≤ k ∧ i = .int .i64 j ∧ b.Perm a ∧ downS lt j b = isort lt a (k + 1) ∧ wr.ownsRow base 3 1 (.slice (some ⟨g, 0, none⟩) a.length cap) a.length (natsV b) ∧ w.grownBy wr (some g)) (fun i _ => (intOf i).toNat)
      case atStart => exact ⟨k, isort lt a k, Nat.le_refl _, rfl, isort_perm lt a k hk, rfl, HOW.out, HGR.out⟩
      case round =>
        obtain ⟨j, b, hj, rfl, hperm, hdn, hown, hgr⟩ := hrel
        obtain ⟨w5, rfl⟩ : ∃ w5, w5 = wr := ⟨_, rfl⟩
        have HPM := hid hperm
        have HDN := hid hdn
        have HOW5 := hid hown
        have HGR5 := hid hgr
        have hbl : b.length = a.length := hperm.length_eq
        have hget : ∀ j, j < a.length → w5.cell? ⟨g, j, none⟩ = some (.int .i64 (b.getD j 0 : Nat)) := by
          intro j hj
          rw [hown.cellAt j (by omega)]
          simp [natsV, List.getD_eq_getElem?_getD, show j < b.length by omega]
        have hmem : ∀ j, j < a.length → b.getD j 0 ∈ a := by
          intro j hj
          refine (hperm.mem_iff).1 ?_
          rw [List.getD_eq_getElem?_getD, List.getElem?_eq_getElem (show j < b.length by omega)]
          exact List.getElem_mem _
        have HGET := hid hget
        have HMEM := hid hmem
        have HBL := hid hbl
        have hfz : ∀ j, w5.frozen? ⟨g, j, none⟩ = false := hown.frozenAt
        have HFZ := hid hfz
        clear hget hmem hperm hdn hown hgr hbl hfz
        by_cases h0 : j = 0
        · subst h0
          go_wp2_with fail
          go_region
          all_goals
            go_wp2_with fail
            refine ⟨⟨k + 1, by omega, by omega, by go_num, ?_, grown_drew HGR5.out⟩, by simp only [intOf]; omega⟩
            rw [← HDN.out]
            exact (HOW5.out).drew
        · obtain ⟨q, rfl⟩ : ∃ q, j = q + 1 := ⟨j - 1, by omega⟩
          have hj0 : decide (((q : Int) + 1) > 0) = true := by simp only [decide_eq_true_eq]; omega
          have x0 := HGET.out (q + 1) (by omega)
          have x1 := HGET.out q (by omega)
          have z0 := HFZ.out (q + 1)
          have z1 := HFZ.out q
          have hm0 := HMEM.out (q + 1) (by omega)
          have hm1 := HMEM.out q (by omega)
          have HDS := hid (show downS lt (q + 1) b = if lt (b.getD (q + 1) 0) (b.getD q 0) then downS lt q (swapL b (q + 1) q) else b from rfl)
          generalize hxi : b.getD (q + 1) 0 = xi at *
          generalize hxp : b.getD q 0 = xp at *
          have HX := hid (And.intro hxi hxp)
          clear hxi hxp
          obtain ⟨ls, hls⟩ : ∃ ls, lt xi xp = ls := ⟨_, rfl⟩
          rw [hls] at HDS
          have HLS := hid (show decide (c xi xp < 0) = ls by rw [← HLT.out, hls])
          clear hls
          obtain ⟨cv, hcv⟩ : ∃ cv, c xi xp = cv := ⟨_, rfl⟩
          have HCC := hid (show ∀ W, w.grownBy W (some g) → Calls Try.prog 40 #[.int .i64 (xi : Int), .int .i64 (xp : Int), p] W fun e w' => e = .returned (.int .i64 cv) ∧ Below W.heap.size W w' by rw [← hcv]; exact HC.out xi xp hm0 hm1)
          rw [hcv] at HLS
          clear hcv hm0 hm1
          have hq0 : (0 : Int) ≤ (q : Int) := by omega
          have hq1 : (q : Int) < (a.length : Int) := by omega
          have hq2 : (0 : Int) ≤ (q : Int) + 1 := by omega
          have hq3 : (q : Int) + 1 < (a.length : Int) := by omega
          have hq4 : IntKind.i64.wrap ((q : Int) + 1 - 1) = (q : Int) := by rw [IntWalk.i64_in _ (by omega)]; omega
          have hq4' : IntKind.i64.wrap (q : Int) = (q : Int) := IntWalk.i64_in _ (by omega)
          have hq5 : ((q : Int) + 1).toNat = q + 1 := by omega
          have hq6 : (0 : Int) < (q : Int) + 1 := by omega
          go_upto_region 4 with fail
          go_cut [34] (fun x wx => x = .bool ls ∧ Below w5.heap.size w5 wx)
          case first =>
            go_region_held3 (fun W => W.cell? ⟨g, q + 1, none⟩ = some (.int .i64 (xi : Int)) ∧ W.cell? ⟨g, q, none⟩ = some (.int .i64 (xp : Int))) (first | exact ⟨x0, x1⟩ | exact ⟨(hb6.cell (p := ⟨g, q + 1, none⟩) (HOW5.out.lt g rfl).2).trans x0, (hb6.cell (p := ⟨g, q, none⟩) (HOW5.out.lt g rfl).2).trans x1⟩)
              ((go_at_call 40; refine (HCC.out w5.drew (grown_drew HGR5.out)).mono ?_; rintro e w6 ⟨rfl, hb6⟩))
            all_goals
              have hls2 := HLS.out
              go_wp2_with fail
              go_meet
              exact ⟨by rw [← hls2], ((Below.refl _ _).drew).trans hb6⟩
          case rest =>
            obtain ⟨rfl, hb6⟩ := hcut
            obtain ⟨w6, rfl⟩ : ∃ w6, w6 = wc := ⟨_, rfl⟩
            have HGR6 := hid (grown_trans HGR5.out (grown_below hb6))
            have HOW6 := hid (own_below HOW5.out hb6)
            have hgl := (HOW5.out.lt g rfl).2
            have y0 : w6.cell? ⟨g, q + 1, none⟩ = some (.int .i64 (xi : Int)) := (hb6.cell (p := ⟨g, q + 1, none⟩) hgl).trans x0
            have y1 : w6.cell? ⟨g, q, none⟩ = some (.int .i64 (xp : Int)) := (hb6.cell (p := ⟨g, q, none⟩) hgl).trans x1
            have f0 : w6.frozen? ⟨g, q + 1, none⟩ = false := (hb6.frozen (p := ⟨g, q + 1, none⟩) hgl).trans z0
            have f1 : w6.frozen? ⟨g, q, none⟩ = false := (hb6.frozen (p := ⟨g, q, none⟩) hgl).trans z1
            clear x0 x1 z0 z1 hb6 hgl
            cases ls with
            | false =>
              rw [if_neg (by simp)] at HDS
              go_wp2_with fail
              refine ⟨⟨k + 1, by omega, by omega, by go_num, ?_, HGR6.out⟩, by simp only [intOf]; omega⟩
              rw [← HDN.out, HDS.out]
              exact HOW6.out
            | true =>
              rw [if_pos rfl] at HDS
              go_upto_region 6 with fail
              have hne1 : ¬ q + 1 = q := by omega
              have hne2 : ¬ q = q + 1 := by omega
              go_region
              all_goals
                go_wp2_with fail
                refine ⟨⟨q, swapL b (q + 1) q, by omega, by go_num, (swapL_perm b (q + 1) q (by have := HBL.out; omega) (by have := HBL.out; omega)).trans HPM.out, by rw [← HDS.out]; exact HDN.out, ?_, ?_⟩, by simp [intOf]⟩
                · have h1 := (World.ownsRow.stored HOW6.out (q + 1) (.int .i64 (xp : Int))).1
                  have h2 := (World.ownsRow.stored h1 q (.int .i64 (xi : Int))).1
                  have e : natsV (swapL b (q + 1) q) = ((natsV b).set (q + 1) (.int .i64 (xp : Int))).set q (.int .i64 (xi : Int)) := by
                    unfold natsV swapL
                    rw [List.map_set, List.map_set, HX.out.1, HX.out.2]
                  rw [e]; exact h2.drew
                · exact grown_drew (grown_set (grown_set HGR6.out _ _) _ _)
    · have hkI : ¬ (k : Int) < (a.length : Int) := by omega
      have hka2 : k = a.length := by omega
      go_wp2_with fail
      go_end0
      exact ⟨rfl, by rw [hka2] at HOW; exact HOW.out, HGR.out⟩
/-- What a sort of at most 20 leaves. -/
def SortPost (g cap base : Nat) (a : List Nat) (c : Nat → Nat → Int) (w : World) (e : Ending) (w' : World) : Prop := e = .returned (.tuple #[]) ∧
      w'.ownsRow base 3 1 (.slice (some ⟨g, 0, none⟩) a.length cap) a.length (natsV (isort (fun x y => decide (c x y < 0)) a a.length)) ∧ w.grownBy w' (some g)
set_option maxRecDepth 100000 in
theorem stable_any (p : Value) (g cap base : Nat) (a : List Nat) (c : Nat → Nat → Int) (w : World) (ha : 0 < a.length) (hlen : a.length < 20) (hown : w.ownsRow base 3 1 (.slice (some ⟨g, 0, none⟩) a.length cap) a.length (natsV a)) (hc : CmpOk p g a c w) :
    Calls Try.prog 67 #[.slice (some ⟨g, 0, none⟩) a.length cap, .int .i64 (a.length : Int), .func (.func 40) #[] #[p]] w (SortPost g cap base a c w) := by
  have H := hid (insert_any p g cap base a c w ha (by omega) hown hc)
  clear hown hc
  have hn : (a.length : Int) < 20 := by omega
  have hn2 : ¬ (20 : Int) ≤ (a.length : Int) := by omega
  have hn3 : ¬ (20 : Int) < (a.length : Int) := by omega
  go_enter Try.func67, Try.ntmps67
  go_wp2_with fail
  go_loopw [7, 8] (fun i j wr => i = .int .i64 0 ∧ j = .int .i64 20 ∧ wr = w) (fun _ _ _ => 0)
  case atStart => exact ⟨rfl, rfl, rfl⟩
  case round =>
    obtain ⟨rfl, rfl, rfl⟩ := hrel
    go_wp2_with fail
    refine Calls.mono H.out ?_
    rintro e w2 ⟨rfl, hown2, hgr2⟩
    clear H
    go_wp2_with fail
    go_loopw [6] (fun i wq => i = .int .i64 20 ∧ wq = w2) (fun _ _ => 0)
    case atStart => exact ⟨rfl, rfl⟩
    case round =>
      obtain ⟨rfl, rfl⟩ := hrel
      go_wp2_with fail
      go_end0
      exact ⟨rfl, hown2, hgr2⟩
set_option maxRecDepth 100000 in
theorem sort_any (p : Value) (g cap base : Nat) (a : List Nat) (c : Nat → Nat → Int) (w : World) (ha : 0 < a.length) (hlen : a.length < 20) (hown : w.ownsRow base 3 1 (.slice (some ⟨g, 0, none⟩) a.length cap) a.length (natsV a)) (hc : CmpOk p g a c w) :
    Calls Try.prog 39 #[.slice (some ⟨g, 0, none⟩) a.length cap, .func (.func 40) #[] #[p]] w (SortPost g cap base a c w) := by
  have H := hid (stable_any p g cap base a c w ha hlen hown hc)
  clear hown hc
  go_enter Try.func39, Try.ntmps39
  go_wp2_with fail
  refine Calls.mono H.out ?_
  rintro e w2 ⟨rfl, hown2, hgr2⟩
  clear H
  go_wp2_with fail
  go_end0
  exact ⟨rfl, hown2, hgr2⟩
set_option maxRecDepth 100000 in
/-- A slice of nothing: no step. -/
theorem stable_none (p : Value) (w : World) :
    Calls Try.prog 67 #[.slice none 0 0, .int .i64 0, .func (.func 40) #[] #[p]] w fun e w' => e = .returned (.tuple #[]) ∧ Below w.heap.size w w' := by
  have H : Hid (Calls Try.prog 81 #[.slice none 0 0, .int .i64 0, .int .i64 0, .func (.func 40) #[] #[p]] w fun e w' => e = .returned (.tuple #[]) ∧ Below w.heap.size w w') := by
    refine hid ?_
    go_enter Try.func81, Try.ntmps81
    go_wp2_with fail
    go_loopw [8] (fun i wr => i = .int .i64 1 ∧ wr = w) (fun _ _ => 0)
    case atStart => exact ⟨rfl, rfl⟩
    case round =>
      obtain ⟨rfl, rfl⟩ := hrel
      go_wp2_with fail
      go_end0
      exact ⟨rfl, Below.refl _ _⟩
  go_enter Try.func67, Try.ntmps67
  go_wp2_with fail
  go_loopw [7, 8] (fun i j wr => i = .int .i64 0 ∧ j = .int .i64 20 ∧ wr = w) (fun _ _ _ => 0)
  case atStart => exact ⟨rfl, rfl, rfl⟩
  case round =>
    obtain ⟨rfl, rfl, rfl⟩ := hrel
    go_wp2_with fail
    refine Calls.mono H.out ?_
    rintro e w2 ⟨rfl, hb2⟩
    clear H
    go_wp2_with fail
    go_loopw [6] (fun i wq => i = .int .i64 20 ∧ wq = w2) (fun _ _ => 0)
    case atStart => exact ⟨rfl, rfl⟩
    case round =>
      obtain ⟨rfl, rfl⟩ := hrel
      go_wp2_with fail
      go_end0
      exact ⟨rfl, hb2⟩
set_option maxRecDepth 100000 in
theorem sort_none (p : Value) (w : World) :
    Calls Try.prog 39 #[.slice none 0 0, .func (.func 40) #[] #[p]] w fun e w' => e = .returned (.tuple #[]) ∧ Below w.heap.size w w' := by
  have H := hid (stable_none p w)
  go_enter Try.func39, Try.ntmps39
  go_wp2_with fail
  refine Calls.mono H.out ?_
  rintro e w2 ⟨rfl, hb2⟩
  clear H
  go_wp2_with fail
  go_end0
  exact ⟨rfl, hb2⟩
end Go.Proofs.Ytolnhicngepnnaa
