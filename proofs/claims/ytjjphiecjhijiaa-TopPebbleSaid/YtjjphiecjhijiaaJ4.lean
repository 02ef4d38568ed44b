import Derived.Test.YtjjphiecjhijiaaJ3
import Derived.Test.YtjjphiecjhijiaaPB
import Derived.Deep.AppendLies
import Derived.BigRegion
namespace Go.Proofs.Ytjjphiecjhijiaa
open Go.RowKit
attribute [local go_sem] alloc_drewN setCell_drewN

def natsV (a : List Nat) : List Value := a.map fun (x : Nat) => .int .i64 (x : Int)
/-- The queue: a heap's cells, and the row that it owns. -/
def HeapW (w : World) (hb b2 base : Nat) (a : List Nat) (v : Value) : Prop :=
  w.cell? ⟨hb, 0, none⟩ = some v ∧ w.frozen? ⟨hb, 0, none⟩ = false ∧ w.cell? ⟨hb, 1, none⟩ = some (.func (.func 19) #[] #[.pointer (some ⟨b2, 0, none⟩)]) ∧ w.ownsRow base 3 1 v a.length (natsV a)
/-- What lay stands, but for block hb and the row r. -/
def FrB (hb : Nat) (r : Option Nat) (w w' : World) : Prop := w'.os = w.os ∧ w'.tape = w.tape ∧ w'.output = w.output ∧ w.heap.size ≤ w'.heap.size ∧ ∀ k, k < w.heap.size → k ≠ hb → some k ≠ r → w'.heap[k]? = w.heap[k]?
theorem FrB.refl (hb : Nat) (r : Option Nat) (w : World) : FrB hb r w w := ⟨rfl, rfl, rfl, Nat.le_refl _, fun _ _ _ _ => rfl⟩
theorem FrB.trans {hb : Nat} {r : Option Nat} {a b c : World} (h : FrB hb r a b) (k : FrB hb r b c) : FrB hb r a c :=
  ⟨k.1.trans h.1, k.2.1.trans h.2.1, k.2.2.1.trans h.2.2.1, Nat.le_trans h.2.2.2.1 k.2.2.2.1, fun i h0 h1 h2 => (k.2.2.2.2 i (Nat.lt_of_lt_of_le h0 h.2.2.2.1) h1 h2).trans (h.2.2.2.2 i h0 h1 h2)⟩
theorem FrB.grown {hb : Nat} {r : Option Nat} {a b c : World} (h : FrB hb r a b) (k : b.grownBy c r) : FrB hb r a c :=
  h.trans ⟨k.os, k.tape, k.output, k.size, fun i h0 _ h2 => k.block i h0 h2⟩
theorem FrB.alloc {hb : Nat} {r : Option Nat} {a b : World} (h : FrB hb r a b) (o : Obj) : FrB hb r a (b.alloc o) :=
  h.trans ⟨rfl, rfl, rfl, by simp, fun i h0 _ _ => Below.heap_alloc b o i h0⟩
theorem FrB.drewN {hb : Nat} {r : Option Nat} {a b : World} (h : FrB hb r a b) (n : Nat) : FrB hb r a (b.drewN n) := h
theorem FrB.set {hb : Nat} {r : Option Nat} {a b : World} (h : FrB hb r a b) (j : Nat) (v : Value) : FrB hb r a (b.setCell ⟨hb, j, none⟩ v) :=
  ⟨h.1, h.2.1, h.2.2.1, by simpa using h.2.2.2.1, fun k h0 h1 h2 => (heap_setCell_other b ⟨hb, j, none⟩ k v h1).trans (h.2.2.2.2 k h0 h1 h2)⟩
theorem FrB.row {hb g : Nat} {r : Option Nat} {a b : World} (h : FrB hb r a b) (hg : r = some g ∨ a.heap.size ≤ g) (j : Nat) (v : Value) : FrB hb r a (b.setCell ⟨g, j, none⟩ v) :=
  ⟨h.1, h.2.1, h.2.2.1, by simpa using h.2.2.2.1, fun k h0 h1 h2 => (heap_setCell_other b ⟨g, j, none⟩ k v (by
    rintro rfl
    rcases hg with hg | hg
    · exact h2 hg.symm
    · omega)).trans (h.2.2.2.2 k h0 h1 h2)⟩
theorem FrB.cell {hb : Nat} {r : Option Nat} {w w' : World} (h : FrB hb r w w') {b o : Nat} {v : Value} (hb1 : some b ≠ r) (hb2 : b ≠ hb) (hc : w.cell? ⟨b, o, none⟩ = some v) : w'.cell? ⟨b, o, none⟩ = some v :=
  (World.cell?_of_block (a := ⟨b, o, none⟩) (h.2.2.2.2 b (cell_lt hc) hb2 hb1)).trans hc
/-- The jobs that the order looks at. -/
def JobsW (w : World) (b2 base hb : Nat) (l : List Mach) : Prop := b2 < base ∧ b2 ≠ hb ∧ (l.length = 0 ∨ ∃ g off cap, w.cell? ⟨b2, 0, none⟩ = some (.slice (some ⟨g, off, none⟩) l.length cap) ∧ l.length ≤ 140737488351232 ∧ g < base ∧ g ≠ hb ∧ CellsAt w g off (l.flatMap Mach.cells))
theorem JobsW.frame {w w' : World} {b2 base hb : Nat} {r : Option Nat} {l : List Mach} (h : JobsW w b2 base hb l) (hf : FrB hb r w w') (hr : ∀ k, r = some k → base ≤ k) : JobsW w' b2 base hb l := by
  have hlt : ∀ k, k < base → some k ≠ r := fun k hk e => by have := hr k e.symm; omega
  obtain ⟨h1, h2, h0 | ⟨g, off, cap, h3, h4, h5, h6, h7⟩⟩ := h
  · exact ⟨h1, h2, .inl h0⟩
  · exact ⟨h1, h2, .inr ⟨g, off, cap, hf.cell (hlt _ h1) h2 h3, h4, h5, h6, fun i hi => hf.cell (hlt _ h5) h6 (h7 i hi)⟩⟩
theorem JobsW.less {w : World} {b2 base hb x y : Nat} {l : List Mach} (h : JobsW w b2 base hb l) (hx : x < l.length) (hy : y < l.length) :
    Calls Try.prog 19 #[.int .i64 x, .int .i64 y, .pointer (some ⟨b2, 0, none⟩)] w fun e w' => e = .returned (.bool (lessJ l x y)) ∧ ∃ k, w' = w.drewN k := by
  obtain ⟨h1, h2, h0 | ⟨g, off, cap, h3, h4, h5, h6, h7⟩⟩ := h
  · omega
  refine less_any l _ b2 x y w ⟨_, _, rfl, h4, .inr ⟨g, off, rfl, ?_, h7⟩⟩ h3 hx hy
  have hl : 0 < (l.flatMap Mach.cells).length := by
    have := mach_cells_get l x hx 0 (by omega)
    have := (List.getElem?_eq_some_iff.1 this).1
    omega
  have := h7 0 hl
  exact cell_lt this

set_option maxRecDepth 100000 in
set_option maxHeartbeats 1000000 in
/-- heap.put -/
theorem put_any (hb b2 base x : Nat) (a : List Nat) (v : Value) (l : List Mach) (w : World) (hh : HeapW w hb b2 base a v) (hj : JobsW w b2 base hb l) (hbb : hb < base) (hbs : base ≤ w.heap.size) (ho : HeapO (lessJ l) a) (ha : ∀ y ∈ a, y < l.length) (hx : x < l.length) (hlen : a.length ≤ 1000000) :
    Calls Try.prog 21 #[.pointer (some ⟨hb, 0, none⟩), .int .i64 x] w fun e w' => e = .returned (.tuple #[]) ∧ ∃ a' v', a'.Perm (a ++ [x]) ∧ HeapO (lessJ l) a' ∧ HeapW w' hb b2 base a' v' ∧ FrB hb v.ownBlock w w' := by
  obtain ⟨e0, f0, e1, hown⟩ := hh
  obtain ⟨i0, hi, hz0, hz1, hz2⟩ := info_parts info3
  go_enter Try.func21, Try.ntmps21
  have hne : hb ≠ w.heap.size := by omega
  have hnr : some hb ≠ v.ownBlock := own_ne hown hbb
  go_upto_region 1 with (at_builtin; refine wpList_append_lies _ rfl _ _ 32 rfl base 3 i0 (.int .i64 0) 1 8 Try.underlying32 hi hz0 hz1 hz2 rfl (by omega) v a.length (natsV a) rfl (hown.alloc _) ⟨w.heap.size, 0, none⟩ 1 1 [.int .i64 (x : Int)] rfl rfl (cell_one_new _ _ _) (ones _ rfl) (by omega) (by unfold maxLen; omega) (by omega) (by simp; omega) (w.heap.size + 1) (by simp) ?_; intro g cap w3 hown3 hgrow3 hat hlt3; have hblk := (hgrow3.block hb (by simp; omega) hnr).trans (Below.heap_alloc w (.cells #[.int .i64 (x : Int)] 3) hb (by omega)); have e0' := (World.cell?_of_block (a := ⟨hb, 0, none⟩) hblk).trans e0; have e1' := (World.cell?_of_block (a := ⟨hb, 1, none⟩) hblk).trans e1; have f0' := (World.frozen?_of_block (a := ⟨hb, 0, none⟩) hblk).trans f0)
  have hgne : g ≠ hb := by
    rcases hat with h | h
    · rintro rfl; exact hnr h.symm
    · omega
  have hrb : ∀ k, v.ownBlock = some k → base ≤ k := fun k hk => (hown.lt k hk).1
  have hb3 : FrB hb v.ownBlock w w3 := ((FrB.refl hb v.ownBlock w).alloc _).grown hgrow3
  have HRG := hid (show v.ownBlock = some g ∨ w.heap.size ≤ g by
    rcases hat with h | h
    · exact .inl h
    · exact .inr (by omega))
  have HRB := hid hrb
  obtain ⟨W4, hW4⟩ : ∃ W4, w3.setCell ⟨hb, 0, none⟩ (.slice (some ⟨g, 0, none⟩) (a.length + 1) cap) = W4 := ⟨_, rfl⟩
  rw [hW4]
  have hown4 : W4.ownsRow base 3 1 (.slice (some ⟨g, 0, none⟩) (a.length + 1) cap) (a.length + 1) (natsV (a ++ [x])) := by
    rw [← hW4, show natsV (a ++ [x]) = natsV a ++ [.int .i64 (x : Int)] by simp [natsV]]
    exact ownsRow_setCell_below hown3 (a := ⟨hb, 0, none⟩) hbb _
  have d0 : W4.cell? ⟨hb, 0, none⟩ = some (.slice (some ⟨g, 0, none⟩) (a.length + 1) cap) := by rw [← hW4]; exact World.cell?_setCell_same _ _ _ e0'
  have d1 : W4.cell? ⟨hb, 1, none⟩ = some (.func (.func 19) #[] #[.pointer (some ⟨b2, 0, none⟩)]) := by rw [← hW4, World.cell?_setCell_other _ _ _ _ (by simp)]; exact e1'
  have df : W4.frozen? ⟨hb, 0, none⟩ = false := by rw [← hW4]; simpa using f0'
  have HFR := hid (show FrB hb v.ownBlock w W4 by rw [← hW4]; exact hb3.set 0 _)
  have HOWN := hid hown4
  have HJ := hid hj
  have HUP := hid (UpO.start (x := x) ho)
  have HORD := hid (less_ord l)
  have HA := hid (show ∀ y ∈ a ++ [x], y < l.length by
    intro y hy
    rcases List.mem_append.1 hy with h | h
    · exact ha y h
    · have : y = x := by simpa using h
      omega)
  clear hrb hown hown3 hgrow3 hat hblk e0 e1 f0 e0' e1' f0' hW4 hb3 hown4 hj ho ha hnr
  go_wp2_with fail
  go_loopw [4] (fun t wr => ∃ (i : Nat) (c : List Nat), t = .int .i64 i ∧ i < a.length + 1 ∧ c.Perm (a ++ [x]) ∧ UpO (lessJ l) c i ∧ wr.cell? ⟨hb, 0, none⟩ = some (.slice (some ⟨g, 0, none⟩) (a.length + 1) cap) ∧ wr.cell? ⟨hb, 1, none⟩ = some (.func (.func 19) #[] #[.pointer (some ⟨b2, 0, none⟩)]) ∧ wr.frozen? ⟨hb, 0, none⟩ = false ∧ wr.ownsRow base 3 1 (.slice (some ⟨g, 0, none⟩) (a.length + 1) cap) (a.length + 1) (natsV c) ∧ FrB hb v.ownBlock w wr) (fun t _ => (intOf t).toNat)
  case atStart => exact ⟨a.length, a ++ [x], rfl, by omega, List.Perm.refl _, HUP.out, d0, d1, df, HOWN.out, HFR.out⟩
  case round =>
    obtain ⟨i, c, rfl, hil, hperm, hup, d0, d1, df, hown, hfr⟩ := hrel
    obtain ⟨w5, rfl⟩ : ∃ w5 : World, w5 = wr := ⟨_, rfl⟩
    have HPM := hid hperm
    have HU := hid hup
    have HOW := hid hown
    have HF := hid hfr
    have hcl : c.length = a.length + 1 := by rw [hperm.length_eq]; simp
    have hget : ∀ j, j < a.length + 1 → w5.cell? ⟨g, j, none⟩ = some (.int .i64 (c.getD j 0 : Nat)) := by
      intro j hj
      rw [hown.cellAt j (by omega)]
      simp [natsV, List.getD_eq_getElem?_getD, show j < c.length by omega]
    have HGET := hid hget
    have hfz : ∀ j, w5.frozen? ⟨g, j, none⟩ = false := hown.frozenAt
    have hmem : ∀ j, j < a.length + 1 → c.getD j 0 < l.length := by
      intro j hj
      refine HA.out _ ((hperm.mem_iff).1 ?_)
      rw [List.getD_eq_getElem?_getD, List.getElem?_eq_getElem (show j < c.length by omega)]
      exact List.getElem_mem _
    have HMEM := hid hmem
    clear hget hmem
    clear hperm hup hown hfr
    by_cases h0 : i = 0
    · subst h0
      clear hfz
      go_wp2_with fail
      go_end0
      exact ⟨rfl, c, _, HPM.out, HU.out.done (.inl rfl), ⟨d0, df, d1, by rw [hcl]; exact HOW.out⟩, HF.out⟩
    · have hi0 : decide ((i : Int) > 0) = true := by simp; omega
      go_upto_region 4 with fail
      obtain ⟨p, hp⟩ : ∃ p, p = (i - 1) / 2 := ⟨_, rfl⟩
      rw [show ((i : Int) - 1) / 2 = (p : Int) by omega]
      have hpi : p < i := by omega
      have x0 := HGET.out i hil
      have x1 := HGET.out p (by omega)
      have hxl := HMEM.out i hil
      have hyl := HMEM.out p (by omega)
      have HP := hid hp
      have hz0' := hfz i
      have hz1' := hfz p
      have hb0 : (0 : Int) ≤ (i : Int) := by omega
      have hb1 : (i : Int) < (a.length : Int) + 1 := by omega
      have hb2 : (0 : Int) ≤ (p : Int) := by omega
      have hb3 : (p : Int) < (a.length : Int) + 1 := by omega
      generalize hxi : c.getD i 0 = xi at *
      generalize hxp : c.getD p 0 = xp at *
      have HX := hid (And.intro hxi hxp)
      clear hxi hxp hfz hp
      generalize hls : lessJ l xi xp = ls at *
      have HLS := hid hls
      clear hls
      go_cut [46] (fun bb wx => bb = .bool (!ls) ∧ ∃ kd, wx = w5.drewN kd)
      case first =>
        go_region_held3 (fun w' => w'.cell? ⟨hb, 0, none⟩ = some (.slice (some ⟨g, 0, none⟩) (a.length + 1) cap) ∧ w'.cell? ⟨hb, 1, none⟩ = some (.func (.func 19) #[] #[.pointer (some ⟨b2, 0, none⟩)]) ∧ w'.cell? ⟨g, i, none⟩ = some (.int .i64 xi) ∧ w'.cell? ⟨g, p, none⟩ = some (.int .i64 xp)) (first | go_keep | (exact ⟨d0, d1, x0, x1⟩))
          (first | (go_at_call 19; refine (((HJ.out.frame HF.out HRB.out).frame ((FrB.refl _ v.ownBlock _).drewN 1) HRB.out).less hxl hyl).mono ?_; rintro e w' ⟨rfl, kd, rfl⟩; rw [HLS.out]))
        all_goals
          go_wp2_with fail
          go_meet
          exact ⟨rfl, _, rfl⟩
      case rest =>
        obtain ⟨rfl, kd, rfl⟩ := hcut
        have y0 : (w5.drewN kd).cell? ⟨hb, 0, none⟩ = some (.slice (some ⟨g, 0, none⟩) (a.length + 1) cap) := d0
        have y1 : (w5.drewN kd).cell? ⟨hb, 1, none⟩ = some (.func (.func 19) #[] #[.pointer (some ⟨b2, 0, none⟩)]) := d1
        have yf : (w5.drewN kd).frozen? ⟨hb, 0, none⟩ = false := df
        have z0 : (w5.drewN kd).cell? ⟨g, i, none⟩ = some (.int .i64 xi) := x0
        have z1 : (w5.drewN kd).cell? ⟨g, p, none⟩ = some (.int .i64 xp) := x1
        have zf0 : (w5.drewN kd).frozen? ⟨g, i, none⟩ = false := hz0'
        have zf1 : (w5.drewN kd).frozen? ⟨g, p, none⟩ = false := hz1'
        have HOW7 := hid (show (w5.drewN kd).ownsRow base 3 1 (.slice (some ⟨g, 0, none⟩) (a.length + 1) cap) (a.length + 1) (natsV c) from HOW.out)
        have HF7 := hid (show FrB hb v.ownBlock w (w5.drewN kd) from HF.out.drewN kd)
        clear d0 d1 df x0 x1 hz0' hz1'
        generalize w5.drewN kd = w7 at *
        have hgb : base ≤ g := (HOW7.out.lt g rfl).1
        cases ls with
        | false =>
          simp only [Bool.not_false]
          go_wp2_with fail
          refine bodyPost_ret (results_none rfl _ _ _) rfl ?_
          refine ⟨rfl, c, _, HPM.out, HU.out.done (.inr ?_), ⟨y0, yf, y1, by rw [hcl]; exact HOW7.out⟩, HF7.out⟩
          rw [HX.out.1, ← HP.out, HX.out.2]; exact HLS.out
        | true =>
          simp only [Bool.not_true]
          go_upto_region 5 with fail
          go_cut [] (fun wx => wx.cell? ⟨hb, 0, none⟩ = some (.slice (some ⟨g, 0, none⟩) (a.length + 1) cap) ∧ wx.cell? ⟨hb, 1, none⟩ = some (.func (.func 19) #[] #[.pointer (some ⟨b2, 0, none⟩)]) ∧ wx.frozen? ⟨hb, 0, none⟩ = false ∧ wx.ownsRow base 3 1 (.slice (some ⟨g, 0, none⟩) (a.length + 1) cap) (a.length + 1) (natsV (swapL c i p)) ∧ FrB hb v.ownBlock w wx)
          case first =>
            have hpne : ¬ i = p := by omega
            have hpne2 : ¬ p = i := by omega
            go_region
            all_goals
              go_wp2_with fail
              go_meet
              have hn1 : ∀ j o, (⟨g, j, none⟩ : Addr) ≠ ⟨hb, o, none⟩ := fun j o h => hgne (by injection h)
              refine ⟨?_, ?_, ?_, ?_, ?_⟩
              · rw [World.cell?_drew, World.cell?_setCell_other _ _ _ _ (hn1 _ _), World.cell?_setCell_other _ _ _ _ (hn1 _ _)]; exact y0
              · rw [World.cell?_drew, World.cell?_setCell_other _ _ _ _ (hn1 _ _), World.cell?_setCell_other _ _ _ _ (hn1 _ _)]; exact y1
              · simpa using yf
              · have h1 := (World.ownsRow.stored HOW7.out i (.int .i64 (xp : Int))).1
                have h2 := (World.ownsRow.stored h1 p (.int .i64 (xi : Int))).1
                have e : natsV (swapL c i p) = ((natsV c).set i (.int .i64 (xp : Int))).set p (.int .i64 (xi : Int)) := by
                  unfold natsV swapL
                  rw [List.map_set, List.map_set, HX.out.1, HX.out.2]
                rw [e]; exact h2.drew
              · exact ((HF7.out.row HRG.out i _).row HRG.out p _).drewN 1
          case rest =>
            obtain ⟨m0, m1, mf, hown8, hfr8⟩ := hcut
            have HO8 := hid hown8
            have HF8 := hid hfr8
            clear hown8 hfr8 y0 y1 yf z0 z1 zf0 zf1
            go_wp2_with fail
            have hpl : p < c.length := by omega
            refine ⟨⟨p, swapL c i p, rfl, by omega, (swapL_perm c i p (by omega) hpl).trans HPM.out, ?_, m0, m1, mf, HO8.out, HF8.out⟩, by simp [intOf]; omega⟩
            have := HU.out.up HORD.out (by omega) (by omega) (by rw [HX.out.1, ← HP.out, HX.out.2]; exact HLS.out)
            rwa [← HP.out] at this
end Go.Proofs.Ytjjphiecjhijiaa
