/-
  PROVED: besomlaw12.PlantPairs returns true for every list of marks and bytes: Match's pairs have each stone once and the sum that it says, no other pairs have a lesser one, and another order of the stones has the same sum (at most 20 stones: the law's own guard; the tables of math/bits as the program's text lays them).
-/
import Derived.Test.YtjjphiecjhijiaaDoorX2
import Derived.Test.YtjjphiecjhijiaaDoorY9
namespace Go.Proofs.YtjjphiecjhijiaaDoor.lawPairs
open Go.ChangeShapes Go.WideShapes Go.ChangeAt Go.RowKit

set_option maxRecDepth 100000
theorem cells5 : Tryd.prog.cellsOf 5 = 1 := by kernel_rfl
theorem bytes5 : Tryd.prog.bytesOf 5 = 1 := by kernel_rfl
theorem u8_bd {n : Int} (h : (Lit.int .u8 n).wf = true) : 0 ≤ n ∧ n ≤ 255 := by
  simp [Lit.wf] at h
  have e1 : IntKind.u8.min = 0 := by decide
  have e2 : IntKind.u8.max = 255 := by decide
  omega

theorem rd_marksV {H : Type} {enc : TypeId × Value → H} {w : World} {r : Reach} {b0 : Nat} {v : Value} {d : DataW H} {ps : List MemPlace} (h : DataW.Trod enc Tryd.prog w 0 (fun _ => true) true 42 v d ps) (hv : Value.okWide Tryd.prog w r b0 42 v) (hw : ∀ k ∈ d.weights Tryd.prog 42, k ≤ reachBytes) (hlt : ∀ q ∈ ps, q.block < w.heap.size) :
    ∃ l, SlK w v l := by
  obtain ⟨a, len, cap, rfl⟩ := okWide_slice Tryd.underlying42 hv
  obtain ⟨fuel, hf⟩ := h
  obtain ⟨u, l, e, s⟩ := rd_marks hf hw hlt
  simp only [Value.cells, List.cons.injEq, and_true] at e
  subst e
  exact ⟨l, s⟩

/-- A slice of bytes. -/
theorem rd_bytes {H : Type} {enc : TypeId × Value → H} {w : World} {fuel : Nat} {cs : List Value} {x : DataW H × List MemPlace} (h : DataW.trod enc Tryd.prog w 0 (fun _ => true) true fuel 32 cs = some x) (hw : ∀ k ∈ x.1.weights Tryd.prog 32, k ≤ reachBytes) (hlt : ∀ q ∈ x.2, q.block < w.heap.size) :
    ∃ v l, cs = [v] ∧ SlB w v l := by
  rcases open_ints Tryd.underlying32 Tryd.underlying5 cells5 h with ⟨rfl, rfl⟩ | ⟨a, len, cap, zs, rfl, _, hl, hm, hz, rfl, hcell, hwz⟩
  · exact ⟨_, [], rfl, ⟨none, 0, rfl, by simp, .inl rfl⟩, by simp⟩
  · simp only [if_true] at hz
    have hr : len * 1 ≤ 140737488351232 := by
      have := hw ((((lits (H := H) .u8 (zs.take len)).length + (lits (H := H) .u8 (zs.drop len)).length)) * Tryd.prog.bytesOf 5) (by simp [DataW.weights, Tryd.underlying32])
      rw [bytes5] at this
      simp only [lits, List.length_map, List.length_take, List.length_drop, reachBytes] at this
      omega
    refine ⟨_, zs.take len, rfl, ⟨some a, cap, by rw [List.length_take, Nat.min_eq_left (by omega)], by rw [List.length_take]; omega, ?_⟩, fun x hx => u8_bd (hwz x (List.mem_of_mem_take hx))⟩
    by_cases h0 : len = 0
    · exact .inl (by rw [List.length_take]; omega)
    · obtain ⟨b, off, rfl⟩ := addr_at (hcell 0 (by omega))
      refine .inr ⟨b, off, rfl, hlt (.cell b off) (MemPlace.mem_row.2 ⟨0, by omega, by simp⟩), fun i hi => ?_⟩
      simp only [List.length_map, List.length_take] at hi
      rw [← add_plain, hcell i (by omega)]
      simp [List.getD_eq_getElem?_getD, show i < zs.length by omega]
theorem rd_bytesV {H : Type} {enc : TypeId × Value → H} {w : World} {r : Reach} {b0 : Nat} {v : Value} {d : DataW H} {ps : List MemPlace} (h : DataW.Trod enc Tryd.prog w 0 (fun _ => true) true 32 v d ps) (hv : Value.okWide Tryd.prog w r b0 32 v) (hw : ∀ k ∈ d.weights Tryd.prog 32, k ≤ reachBytes) (hlt : ∀ q ∈ ps, q.block < w.heap.size) :
    ∃ l, SlB w v l := by
  obtain ⟨a, len, cap, rfl⟩ := okWide_slice Tryd.underlying32 hv
  obtain ⟨fuel, hf⟩ := h
  obtain ⟨u, l, e, s⟩ := rd_bytes hf hw hlt
  simp only [Value.cells, List.cons.injEq, and_true] at e
  subst e
  exact ⟨l, s⟩

set_option maxRecDepth 100000 in
theorem contract (H : Type) (enc : TypeId × Value → H) (W : World) (base : Nat) (args : Array Value) (ds gs : List (DataW H)) (before : List MemPlace)
    (hval : ∀ (j : Nat) t v, Tryd.f6.params[j]? = some t → args[j]? = some v → Value.okWide Tryd.prog W .any base t v)
    (hW : DataW.Whole enc Tryd.prog Tryd.f6.params.toList Rows.plantPairsSpec.vars false W args.toList ds gs before)
    (hsz : (DataW.weightsEach Tryd.prog (Tryd.f6.params.toList ++ (OpenSpec.ofChange Rows.plantPairsSpec).bare.plain.varTypes Tryd.prog) (ds ++ gs)).all (· ≤ reachBytes) = true) (hL : laidMetH Tryd.prog laidL W) :
    Calls Tryd.prog 6 args W fun e W' => ∃ v, e = .returned v ∧ Rows.plantPairsSpec.post enc Tryd.prog Tryd.f6 false true false false W args v W' := by
  have hW' := hW
  obtain ⟨p, q, hA0, hV, rfl, hfz, hnd⟩ := hW
  have hA : DataW.TrodAll enc Tryd.prog W 0 (fun _ => true) true Tryd.f6.params.toList args.toList ds p := hA0
  rw [Tryd.params6] at hA hval
  obtain ⟨rfl, rfl⟩ := trodVars_none hV
  obtain ⟨v0, v1, d0, d1, p0, p1, rfl, rfl, rfl, h0, h1⟩ := trodAll_two hA
  have hlt : ∀ x ∈ p0 ++ p1, x.block < W.heap.size := fun x hx => hW'.lt x (by simp only [List.mem_append] at hx ⊢; exact .inl hx)
  have hw0 : ∀ k ∈ d0.weights Tryd.prog 42, k ≤ reachBytes := fun k hk => by
    have := List.all_eq_true.1 hsz k (DataW.weights_mem_each (j := 0) (by rw [Tryd.params6]; rfl) rfl k hk)
    simpa using this
  have hw1 : ∀ k ∈ d1.weights Tryd.prog 32, k ≤ reachBytes := fun k hk => by
    have := List.all_eq_true.1 hsz k (DataW.weights_mem_each (j := 1) (by rw [Tryd.params6]; rfl) rfl k hk)
    simpa using this
  obtain ⟨lm, hs⟩ := rd_marksV h0 (hval 0 42 v0 rfl rfl) hw0 (fun x hx => hlt x (List.mem_append_left _ hx))
  obtain ⟨bl, hb⟩ := rd_bytesV h1 (hval 1 32 v1 rfl rfl) hw1 (fun x hx => hlt x (List.mem_append_right _ hx))
  refine (pairs_any v0 v1 lm bl W hs hb (tab_of hL)).mono fun e W' ⟨he, hb⟩ => ?_
  subst he
  exact ⟨_, rfl, law_post hW' rfl rfl (by rw [Tryd.params6]; intro t ht; rcases (by simpa using ht : t = 42 ∨ t = 32) with rfl | rfl <;>
                                          exact ⟨by kernel_rfl, of_decide_eq_true (by kernel_rfl)⟩) rfl rfl rfl hb⟩

abbrev wit0 : Value := .slice none 0 0
abbrev wit1 : Value := .slice none 0 0
noncomputable def laidWorld (os : Os) : World := layTabs (World.holding Tryd.prog os ⟨#[], #[], []⟩)
theorem laid_met (os : Os) : laidMet Tryd.prog laidL ((laidWorld os).forCall (fun _ _ => 0) ⟨#[], #[wit0, wit1], []⟩).memory :=
  laidMet_of_run' 8 (by kernel_rfl) (by kernel_rfl)
theorem reads (os : Os) {H : Type} (enc : TypeId × Value → H) : ∃ places, DataW.whole enc Tryd.prog ((laidWorld os).forCall (fun _ _ => 0) ⟨#[], #[wit0, wit1], []⟩).memory Tryd.f6.params.toList Rows.plantPairsSpec.vars false #[wit0, wit1].toList 8 = some ([.nil, .nil], [], places) :=
  ⟨[], by kernel_rfl⟩
set_option maxRecDepth 100000 in
theorem lifted (os : Os) (started : os.Started) (H : Type) (enc : TypeId × Value → H) (F : Stop.Interp) :
    ReturnsInHanded {} Tryd.checked os 6 .any ((OpenSpec.ofChange Rows.plantPairsSpec).preRow enc Tryd.prog Tryd.f6 Rows.plantPairsRow.domain false Rows.plantPairsRow.laid) (((OpenSpec.ofChange Rows.plantPairsSpec).at F).post enc Tryd.prog Tryd.f6 false true false false) := by
  obtain ⟨places, hx⟩ := reads os enc
  refine returnsInHanded_of_row (C := Tryd.checked) (s := OpenSpec.ofChange Rows.plantPairsSpec) own started (by kernel_rfl) Tryd.func6
    (witness_row_at (enc := enc) (C := Tryd.checked) false (laidWorld os) #[wit0, wit1] rfl (by kernel_rfl) (by kernel_rfl) (by kernel_rfl)
      (OpenSpec.preRow_of_cond 8 hx (by kernel_rfl) (fun k hk => by cases hk) (by kernel_rfl) (laid_met os))) ?_
  intro W base args ds gs before hval hW _ _ hsz hL _ _
  exact contract H enc W base args ds gs before hval hW hsz hL
theorem said : Rows.PlantPairsSaid :=
  OpenClaim.holds_of_cond 6 Tryd.f6 rfl rfl rfl rfl rfl rfl rfl ⟨rfl, rfl, rfl, rfl, rfl⟩ rfl rfl rfl rfl rfl (by kernel_rfl) Tryd.func6 (by kernel_rfl)
    (of_decide_eq_true (by kernel_rfl)) (by unfold Func.isWrapper; first | (rw [if_pos (by decide +kernel)]; kernel_rfl) | (rw [if_neg (by decide +kernel)]; exact ⟨rfl, rfl⟩))
    (fun os started H enc _ F => by rw [OpenClaim.pre_eq_preRow]; exact lifted os started H enc F)
theorem plain (f : FuncId) (fn : Func) (hf : Tryd.pinned.checked.prog.funcNamed "besom/besomlaw12.PlantPairs" = some f) (hfn : Tryd.pinned.checked.prog.funcs[f]? = some fn) :
    false = Tryd.pinned.checked.prog.looks [] ∧ ∀ (j : Nat) t, fn.params[j]? = some t → Tryd.pinned.checked.prog.wantsStandIn t = false := by
  obtain rfl : f = 6 := Option.some.inj ((show Tryd.prog.funcNamed "besom/besomlaw12.PlantPairs" = some 6 by kernel_rfl).symm.trans hf) |>.symm
  obtain rfl : fn = Tryd.f6 := (Option.some.inj (Tryd.func6.symm.trans hfn)).symm
  refine ⟨by kernel_rfl, fun j t ht => ?_⟩
  rw [Tryd.params6] at ht
  rcases (by simpa using Array.mem_of_getElem? ht : t = 42 ∨ t = 32) with rfl | rfl
  · exact (show Tryd.prog.wantsStandIn 42 = false by kernel_rfl)
  · exact (show Tryd.prog.wantsStandIn 32 = false by kernel_rfl)
/-- The tied card of PlantPairs. -/
theorem card : Rows.PlantPairsCardSaid :=
  Claim7.holds_tied_plain_at .later [] _ _ _ _ said (fun _ h => by cases h) (by kernel_rfl) (fun _ h => by cases h) plantPairs_row_tie rfl ⟨rfl, rfl⟩ (by kernel_rfl) rfl plain (by kernel_rfl)
end Go.Proofs.YtjjphiecjhijiaaDoor.lawPairs
