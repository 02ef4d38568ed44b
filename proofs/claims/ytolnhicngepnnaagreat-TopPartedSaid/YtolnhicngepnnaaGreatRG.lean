/- A loop over an iterator that makes memory, hands out what it makes, and may panic: the law. -/
import Derived.RangeFuncNested
import Derived.RangeFuncBound
import Derived.RangeFuncCalls
import Derived.RangeFuncLeaves
import Derived.RangeFuncWrites
import Derived.Shelf.Abstract
import Derived.Shelf.RegionOpen
import Derived.OwnWalkIn
import Derived.TacticsInMore
import Derived.LoopNIn
import Derived.LoopIn
import Derived.Test.YtolnhicngepnnaaGreatPB
namespace Go.Proofs.YtolnhicngepnnaaGreat
open Go.RowKit Go.Shelf

/-- What an iterator does between two rounds: it makes memory, and writes to blocks of its own. -/
def Ch (O : Nat → Prop) (W W' : World) : Prop := Below 0 W W' ∧ ∀ k, k < W.heap.size → ¬ O k → W'.heap[k]? = W.heap[k]?
def NewO (O : Nat → Prop) (W W' : World) : Nat → Prop := fun k => O k ∨ (W.heap.size ≤ k ∧ k < W'.heap.size)
theorem Ch.of_below {O : Nat → Prop} {W W' : World} (h : Below W.heap.size W W') : Ch O W W' := ⟨h.mono (Nat.zero_le _), fun k hk _ => h.block k hk⟩
theorem Ch.trans {O : Nat → Prop} {A B C : World} (h : Ch O A B) (k : Ch O B C) : Ch O A C := ⟨h.1.trans k.1, fun i hi hO => (k.2 i (Nat.lt_of_lt_of_le hi h.1.size) hO).trans (h.2 i hi hO)⟩
/-- Behind steps that also write to blocks made on the way. -/
theorem Ch.step {O : Nat → Prop} {A B C : World} (h : Ch O A B) (k : Ch (NewO O A B) B C) : Ch O A C := ⟨h.1.trans k.1, fun i hi hO => (k.2 i (Nat.lt_of_lt_of_le hi h.1.size) (fun hn => hn.elim hO (fun q => by omega))).trans (h.2 i hi hO)⟩

/-- How the call of an iterator ends: it has handed out all, or it panics. -/
def SPost {α : Type} (J : (Nat → Prop) → List α → World → Prop) (Jp : List PanicEntry → World → Prop) (Dn : List α → Prop) : Ending → World → Prop
  | .returned _, W' => ∃ O pre, Dn pre ∧ J O pre W'
  | .panicked ch, W' => Jp ch W'
  | .outgrown, _ => False
/-- The iterator hands out values, one behind the other, each one as Nx says, whatever the rounds do that keep what it owns and what it reads; at its end Dn holds of what has come; if it panics, Pn. -/
def SeqG {α : Type} (F : Fence) (n : Nat) (P : Program) (g : Nat) (lb : Array Value) (encs : α → Array Value) (K : Nat → Prop) (Nx : List α → α → World → Prop) (Dn : List α → Prop) (Pn : List α → List PanicEntry → Prop) (w : World) : Prop :=
  ∀ (l : Nat) (J : (Nat → Prop) → List α → World → Prop) (Jp : List PanicEntry → World → Prop) (W : World), Below w.heap.size w W →
    (∀ O pre W1 W2, J O pre W1 → Ch O W1 W2 → J (NewO O W1 W2) pre W2) →
    (∀ O pre x W1, J O pre W1 → Nx pre x W1 → YieldAt F (n - 1) P l (encs x) W1 fun e W' =>
      e = .returned (.bool true) ∧ J O (pre ++ [x]) W' ∧ W1.heap.size ≤ W'.heap.size ∧ ∀ k, O k ∨ K k → W'.heap[k]? = W1.heap[k]?) →
    (∀ O pre ch W1, J O pre W1 → Pn pre ch → Jp ch W1) →
    J (fun _ => False) [] W →
    CallsIn F n P g (#[.func (.yield l) #[] #[]] ++ lb) W (SPost J Jp Dn)
/-- How a round's body is left. -/
def postO {α : Type} (B : Nat) (K O : Nat → Prop) (I : (Nat → Prop) → List α → World → Prop) (xs : List α) (W : World) : Exit → Act → World → Prop
  | .normal, _, W' => KeepsFrom B W W' ∧ (∀ k, O k ∨ K k → W'.heap[k]? = W.heap[k]?) ∧ I O xs W'
  | _, _, _ => False
/-- What stands though the loop's own records turn. -/
def StR (B : Nat) (I : World → Prop) : Prop := ∀ W W' row, I W → W.grownBy W' row → (∀ r, row = some r → B ≤ r ∧ ∃ o : Obj, W.heap[r]? = some o ∧ o.isCells = false) → I W'
theorem StR.put {B : Nat} {I : World → Prop} (h : StR B I) {W : World} {l : Nat} {o : Obj} (o' : Obj) (hs : I W) (hB : B ≤ l) (hl : W.heap[l]? = some o) (ho : o.isCells = false) : I (W.putObj l o') :=
  h W _ (some l) hs (grownBy_putObj' W l o') (fun r e => by cases e; exact ⟨hB, o, hl, ho⟩)
theorem StR.new {B : Nat} {I : World → Prop} (h : StR B I) {W : World} (o : Obj) (hs : I W) : I (W.alloc o) :=
  h W _ none hs (World.grownBy_alloc W o none) (fun r e => by cases e)

theorem psz (W : World) (l : Nat) (o : Obj) : (W.putObj l o).heap.size = W.heap.size := by
  have h := (grownBy_putObj' W l o).size
  simp [World.putObj]
theorem wpIn_rangeG {α : Type} {F : Fence} {n : Nat} {P : Program} {g : Operand} {ps : Array Tmp} {assign body : Code} {Q : Exit → Act → World → Prop} {a : Act} {w : World}
    (hro : F.round = none) (h1 : 1 ≤ n) {gf : Nat} {lb : Array Value} (hg : a.eval g = .func (.func gf) #[] lb) (hFg : F.fn gf) (eg : ∀ args w, (callFunc gf args).run P w = .ok (.enter gf args) w)
    {encs : α → Array Value} {K : Nat → Prop} {Nx : List α → α → World → Prop} {Dn : List α → Prop} {Pn : List α → List PanicEntry → Prop} {w0 : World} (hseq : SeqG F (n - 1) P gf lb encs K Nx Dn Pn w0)
    (hb0 : Below w0.heap.size w0 w) (hps : ∀ x, (encs x).size = ps.size) (hK : ∀ k, K k → k < w.heap.size)
    (I : (Nat → Prop) → List α → World → Prop) (Ia : (Nat → Prop) → List α → α → Act → World → Prop)
    (hI : ∀ O pre W W', I O pre W → (∀ k, O k → w.heap.size + 2 ≤ k) → w.heap.size + 2 ≤ W.heap.size → Ch O W W' → I (NewO O W W') pre W')
    (hIs : ∀ O pre, StR w.heap.size (I O pre)) (hIas : ∀ O pre x a', StR w.heap.size (Ia O pre x a'))
    (h0 : I (fun _ => False) [] w)
    (hassign : ∀ (l : Nat) O pre x W, Nx pre x W → I O pre W → (∀ k, O k → w.heap.size + 2 ≤ k ∧ k < W.heap.size) → w.heap.size + 2 ≤ W.heap.size →
      assign.wpIn (F.inRound l) (n - 1 - 1) P (Exit.then (fun a' W' => KeepsFrom w.heap.size W W' ∧ (∀ k, O k ∨ K k → W'.heap[k]? = W.heap[k]?) ∧ Ia O pre x a' W') (fun _ _ _ => False)) { tmps := (ps.zip (encs x)).foldl (fun t (p, v) => t.setIfInBounds p v) a.tmps, defers := [] } W)
    (hbody : ∀ (l : Nat) O pre x a' W, w.heap.size ≤ l → (∃ r, W.heap[l]? = some (.loop r)) → Ia O pre x a' W → (∀ k, O k → w.heap.size + 2 ≤ k ∧ k < W.heap.size) → w.heap.size + 2 ≤ W.heap.size →
      body.wpIn (F.inRound l) (n - 1 - 1) P (postO w.heap.size K O I (pre ++ [x]) W) a' W)
    (hdone : ∀ O pre D W, w.heap.size ≤ D → Dn pre → I O pre W → W.heap[D]? = some (.deferred (some [])) → Q .normal { a with defers := { target := .collected D, args := #[] } :: a.defers } W)
    (hpanic : ∀ O pre ch D W, w.heap.size ≤ D → Pn pre ch → I O pre W → W.heap[D]? = some (.deferred (some [])) → Q (.panic ch) { a with defers := { target := .collected D, args := #[] } :: a.defers } W) :
    (Code.rangeFunc g ps assign body).wpIn F n P Q a w := by
  refine wpIn_rangeFunc (fun fn hfn => ?_)
  rw [hro]
  obtain ⟨rec, hrec⟩ : ∃ rec : LoopState → Option Code → Loop, rec = fun st pe => { state := st, pending := pe, fn, tmps := a.tmps, params := ps, assign, body, defers := w.heap.size } := ⟨_, rfl⟩
  obtain ⟨W1, hW1⟩ : ∃ W1, (w.alloc (.deferred (some []))).alloc (.loop (rec .ready none)) = W1 := ⟨_, rfl⟩
  have hz1 : W1.heap.size = w.heap.size + 2 := by rw [← hW1]; simp
  have hL1 : W1.heap[w.heap.size + 1]? = some (.loop (rec .ready none)) := by rw [← hW1]; exact heap_alloc2_new w _ _
  have hK1 : W1.heap[w.heap.size]? = some (.deferred (some [])) := by rw [← hW1]; exact heap_alloc2_old w _ _
  have hI1 : I (fun _ => False) [] W1 := by rw [← hW1]; exact (hIs _ _).new _ ((hIs _ _).new _ h0)
  have hb1 : Below w0.heap.size w0 W1 := by
    rw [← hW1]; exact (hb0.alloc hb0.size _).alloc (Nat.le_trans hb0.size (by simp)) _
  refine ⟨w.heap.size + 1, [{ target := .collected w.heap.size, args := #[] }], W1, { target := .fn (.func gf) lb, args := #[.func (.yield (w.heap.size + 1)) #[] #[]] }, W1, gf,
    #[.func (.yield (w.heap.size + 1)) #[] #[]] ++ lb, W1, ?_, ?_, ?_, ?_, fun _ => h1, ?_⟩
  · rw [← hW1, hrec]; exact run_enterLoop_outer _ _ _ _ _
  · simp only [resolve, hg]
    simp [go_sem]
  · intro f' hf'; simp [Target.leads] at hf'; subst hf'; exact hFg
  · simp [invoke, go_sem, eg]
  · refine (hseq (w.heap.size + 1)
      (fun O pre W => (∀ k, O k → w.heap.size + 2 ≤ k ∧ k < W.heap.size) ∧ w.heap.size + 2 ≤ W.heap.size ∧ I O pre W ∧ W.heap[w.heap.size + 1]? = some (.loop (rec .ready none)) ∧ W.heap[w.heap.size]? = some (.deferred (some [])))
      (fun ch W => Q (.panic ch) { a with defers := { target := .collected w.heap.size, args := #[] } :: a.defers } W)
      W1 hb1 ?_ ?_ ?_ ⟨fun _ h => h.elim, by omega, hI1, hL1, hK1⟩).mono ?_
    · rintro O pre A B ⟨hO, hz, hi, hl, hk⟩ hc
      have hsz := hc.1.size
      refine ⟨?_, by omega, hI O pre A B hi (fun k h => (hO k h).1) hz hc, ?_, ?_⟩
      · rintro k (h | h)
        · have := hO k h; omega
        · omega
      · exact (hc.2 _ (by omega) (fun h => by have := (hO _ h).1; omega)).trans hl
      · exact (hc.2 _ (by omega) (fun h => by have := (hO _ h).1; omega)).trans hk
    · rintro O pre x W ⟨hO, hz, hi, hl, hk⟩ hx
      have hy := run_yield (P := P) (args := encs x) hl (by rw [hrec]; exact hps x)
      rw [hrec] at hy
      refine ⟨fn, _, assign, body, hy, roundIn_of_wpIn hfn (wpIn_mono (hassign _ O pre x W hx hi hO hz) ?_)⟩
      rintro e a' W' he
      cases e with
      | normal =>
        obtain ⟨hkf, hsame, hia⟩ := he
        have hl' := hkf.same _ _ (by omega) hl rfl
        have hk' := hkf.same _ _ (Nat.le_refl _) hk rfl
        have hlt : w.heap.size + 1 < W'.heap.size := (Array.getElem?_eq_some_iff.1 hl').1
        refine ⟨_, run_beginRound hl' (by rw [hrec]), ?_⟩
        have hl2 : (W'.putObj (w.heap.size + 1) (.loop { rec .ready none with state := .busy })).heap[w.heap.size + 1]? = some (.loop { rec .ready none with state := .busy }) := World.putObj_heap_same hlt
        have hk2 : (W'.putObj (w.heap.size + 1) (.loop { rec .ready none with state := .busy })).heap[w.heap.size]? = some (.deferred (some [])) := (World.putObj_heap_other (by omega)).trans hk'
        have hsz := hkf.size
        have hO2 : ∀ k, O k → w.heap.size + 2 ≤ k ∧ k < (W'.putObj (w.heap.size + 1) (.loop { rec .ready none with state := .busy })).heap.size := fun k h => by
          rw [psz]
          have := hO k h
          omega
        have hz2 : w.heap.size + 2 ≤ (W'.putObj (w.heap.size + 1) (.loop { rec .ready none with state := .busy })).heap.size := by
          rw [psz]
          omega
        refine wpIn_mono (hbody _ O pre x a' _ (by omega) ⟨_, hl2⟩ ((hIas _ _ _ _).put _ hia (by omega) hl' rfl) hO2 hz2) ?_
        rintro e a3 W3 hp
        cases e with
        | normal =>
          obtain ⟨hk3, hs3, hi3⟩ := hp
          have hl3 := hk3.same _ _ (by omega) hl2 rfl
          have hd3 := hk3.same _ _ (Nat.le_refl _) hk2 rfl
          have hr := run_endRound (P := P) none hl3
          have hlt3 : w.heap.size + 1 < W3.heap.size := (Array.getElem?_eq_some_iff.1 hl3).1
          have hKO : ∀ k, O k ∨ K k → k ≠ w.heap.size + 1 := fun k h => by
            rcases h with h | h
            · have := (hO k h).1; omega
            · have := hK k h; omega
          have hs3z := hk3.size
          rw [psz] at hs3z
          rw [hrec] at hr ⊢
          refine ⟨_, _, hr, rfl, ⟨?_, ?_, ?_, ?_, ?_⟩, ?_, ?_⟩
          · intro k h
            rw [psz]
            have := hO k h
            omega
          · rw [psz]
            omega
          · exact (hIs _ _).put _ hi3 (by omega) hl3 rfl
          · exact World.putObj_heap_same hlt3
          · exact (World.putObj_heap_other (by omega)).trans hd3
          · rw [psz]
            omega
          · intro k h
            have hne := hKO k h
            rw [World.putObj_heap_other (by omega), hs3 k h, World.putObj_heap_other (by omega), hsame k h]
        | _ => exact hp.elim
      | _ => exact he.elim
    · rintro O pre ch W ⟨hO, hz, hi, hl, hk⟩ hp
      exact hpanic O pre ch _ W (Nat.le_refl _) hp hi hk
    · intro e W2 hs
      cases e with
      | outgrown => exact hs.elim
      | panicked ch => exact hs
      | returned v =>
        obtain ⟨O, pre, hd, hO, hz, hi, hl, hk⟩ := hs
        exact ⟨none, _, by have := run_endLoop (P := P) hl (by rw [hrec]; simp); rw [hrec] at this; exact this, hdone O pre _ _ (Nat.le_refl _) hd ((hIs _ _).put _ hi (by omega) hl rfl) ((World.putObj_heap_other (by omega)).trans hk)⟩
/-- The same in a round of another loop. -/
theorem wpIn_rangeGN {α : Type} {F : Fence} {n : Nat} {P : Program} {g : Operand} {ps : Array Tmp} {assign body : Code} {Q : Exit → Act → World → Prop} {a : Act} {w : World}
    {l₀ : Nat} {r₀ : Loop} (hro : F.round = some l₀) (hl₀ : w.heap[l₀]? = some (.loop r₀)) (h1 : 1 ≤ n) {gf : Nat} {lb : Array Value} (hg : a.eval g = .func (.func gf) #[] lb) (hFg : F.fn gf) (eg : ∀ args w, (callFunc gf args).run P w = .ok (.enter gf args) w)
    {encs : α → Array Value} {K : Nat → Prop} {Nx : List α → α → World → Prop} {Dn : List α → Prop} {Pn : List α → List PanicEntry → Prop} {w0 : World} (hseq : SeqG F (n - 1) P gf lb encs K Nx Dn Pn w0)
    (hb0 : Below w0.heap.size w0 w) (hps : ∀ x, (encs x).size = ps.size) (hK : ∀ k, K k → k < w.heap.size)
    (I : (Nat → Prop) → List α → World → Prop) (Ia : (Nat → Prop) → List α → α → Act → World → Prop)
    (hI : ∀ O pre W W', I O pre W → (∀ k, O k → w.heap.size + 1 ≤ k) → w.heap.size + 1 ≤ W.heap.size → Ch O W W' → I (NewO O W W') pre W')
    (hIs : ∀ O pre, StR w.heap.size (I O pre)) (hIas : ∀ O pre x a', StR w.heap.size (Ia O pre x a'))
    (h0 : I (fun _ => False) [] w)
    (hassign : ∀ (l : Nat) O pre x W, Nx pre x W → I O pre W → (∀ k, O k → w.heap.size + 1 ≤ k ∧ k < W.heap.size) → w.heap.size + 1 ≤ W.heap.size →
      assign.wpIn (F.inRound l) (n - 1 - 1) P (Exit.then (fun a' W' => KeepsFrom w.heap.size W W' ∧ (∀ k, O k ∨ K k → W'.heap[k]? = W.heap[k]?) ∧ Ia O pre x a' W') (fun _ _ _ => False)) { tmps := (ps.zip (encs x)).foldl (fun t (p, v) => t.setIfInBounds p v) a.tmps, defers := [] } W)
    (hbody : ∀ (l : Nat) O pre x a' W, w.heap.size ≤ l → (∃ r, W.heap[l]? = some (.loop r)) → Ia O pre x a' W → (∀ k, O k → w.heap.size + 1 ≤ k ∧ k < W.heap.size) → w.heap.size + 1 ≤ W.heap.size →
      body.wpIn (F.inRound l) (n - 1 - 1) P (postO w.heap.size K O I (pre ++ [x]) W) a' W)
    (hdone : ∀ O pre W, Dn pre → I O pre W → Q .normal a W)
    (hpanic : ∀ O pre ch W, Pn pre ch → I O pre W → Q (.panic ch) a W) :
    (Code.rangeFunc g ps assign body).wpIn F n P Q a w := by
  refine wpIn_rangeFunc (fun fn hfn => ?_)
  rw [hro]
  obtain ⟨rec, hrec⟩ : ∃ rec : LoopState → Option Code → Loop, rec = fun st pe => { state := st, pending := pe, fn, tmps := a.tmps, params := ps, assign, body, defers := r₀.defers } := ⟨_, rfl⟩
  obtain ⟨W1, hW1⟩ : ∃ W1, w.alloc (.loop (rec .ready none)) = W1 := ⟨_, rfl⟩
  have hz1 : W1.heap.size = w.heap.size + 1 := by rw [← hW1]; simp
  have hL1 : W1.heap[w.heap.size]? = some (.loop (rec .ready none)) := by rw [← hW1]; exact World.alloc_heap_new w _
  have hI1 : I (fun _ => False) [] W1 := by rw [← hW1]; exact (hIs _ _).new _ h0
  have hb1 : Below w0.heap.size w0 W1 := by
    rw [← hW1]; exact hb0.alloc hb0.size _
  refine ⟨w.heap.size, [], W1, { target := .fn (.func gf) lb, args := #[.func (.yield (w.heap.size)) #[] #[]] }, W1, gf,
    #[.func (.yield (w.heap.size)) #[] #[]] ++ lb, W1, ?_, ?_, ?_, ?_, fun _ => h1, ?_⟩
  · rw [← hW1, hrec]; exact run_enterLoop_inner hl₀ _ _ _ _ _
  · simp only [resolve, hg]
    simp [go_sem]
  · intro f' hf'; simp [Target.leads] at hf'; subst hf'; exact hFg
  · simp [invoke, go_sem, eg]
  · refine (hseq (w.heap.size)
      (fun O pre W => (∀ k, O k → w.heap.size + 1 ≤ k ∧ k < W.heap.size) ∧ w.heap.size + 1 ≤ W.heap.size ∧ I O pre W ∧ W.heap[w.heap.size]? = some (.loop (rec .ready none)))
      (fun ch W => Q (.panic ch) a W)
      W1 hb1 ?_ ?_ ?_ ⟨fun _ h => h.elim, by omega, hI1, hL1⟩).mono ?_
    · rintro O pre A B ⟨hO, hz, hi, hl⟩ hc
      have hsz := hc.1.size
      refine ⟨?_, by omega, hI O pre A B hi (fun k h => (hO k h).1) hz hc, ?_⟩
      · rintro k (h | h)
        · have := hO k h; omega
        · omega
      · exact (hc.2 _ (by omega) (fun h => by have := (hO _ h).1; omega)).trans hl
    · rintro O pre x W ⟨hO, hz, hi, hl⟩ hx
      have hy := run_yield (P := P) (args := encs x) hl (by rw [hrec]; exact hps x)
      rw [hrec] at hy
      refine ⟨fn, _, assign, body, hy, roundIn_of_wpIn hfn (wpIn_mono (hassign _ O pre x W hx hi hO hz) ?_)⟩
      rintro e a' W' he
      cases e with
      | normal =>
        obtain ⟨hkf, hsame, hia⟩ := he
        have hl' := hkf.same _ _ (by omega) hl rfl
        have hlt : w.heap.size < W'.heap.size := (Array.getElem?_eq_some_iff.1 hl').1
        refine ⟨_, run_beginRound hl' (by rw [hrec]), ?_⟩
        have hl2 : (W'.putObj (w.heap.size) (.loop { rec .ready none with state := .busy })).heap[w.heap.size]? = some (.loop { rec .ready none with state := .busy }) := World.putObj_heap_same hlt
        have hsz := hkf.size
        have hO2 : ∀ k, O k → w.heap.size + 1 ≤ k ∧ k < (W'.putObj (w.heap.size) (.loop { rec .ready none with state := .busy })).heap.size := fun k h => by
          rw [psz]
          have := hO k h
          omega
        have hz2 : w.heap.size + 1 ≤ (W'.putObj (w.heap.size) (.loop { rec .ready none with state := .busy })).heap.size := by
          rw [psz]
          omega
        refine wpIn_mono (hbody _ O pre x a' _ (by omega) ⟨_, hl2⟩ ((hIas _ _ _ _).put _ hia (by omega) hl' rfl) hO2 hz2) ?_
        rintro e a3 W3 hp
        cases e with
        | normal =>
          obtain ⟨hk3, hs3, hi3⟩ := hp
          have hl3 := hk3.same _ _ (by omega) hl2 rfl
          have hr := run_endRound (P := P) none hl3
          have hlt3 : w.heap.size < W3.heap.size := (Array.getElem?_eq_some_iff.1 hl3).1
          have hKO : ∀ k, O k ∨ K k → k ≠ w.heap.size := fun k h => by
            rcases h with h | h
            · have := (hO k h).1; omega
            · have := hK k h; omega
          have hs3z := hk3.size
          rw [psz] at hs3z
          rw [hrec] at hr ⊢
          refine ⟨_, _, hr, rfl, ⟨?_, ?_, ?_, ?_⟩, ?_, ?_⟩
          · intro k h
            rw [psz]
            have := hO k h
            omega
          · rw [psz]
            omega
          · exact (hIs _ _).put _ hi3 (by omega) hl3 rfl
          · exact World.putObj_heap_same hlt3
          · rw [psz]
            omega
          · intro k h
            have hne := hKO k h
            rw [World.putObj_heap_other (by omega), hs3 k h, World.putObj_heap_other (by omega), hsame k h]
        | _ => exact hp.elim
      | _ => exact he.elim
    · rintro O pre ch W ⟨hO, hz, hi, hl⟩ hp
      exact hpanic O pre ch W hp hi
    · intro e W2 hs
      cases e with
      | outgrown => exact hs.elim
      | panicked ch => exact hs
      | returned v =>
        obtain ⟨O, pre, hd, hO, hz, hi, hl⟩ := hs
        exact ⟨none, _, by have := run_endLoop (P := P) hl (by rw [hrec]; simp); rw [hrec] at this; exact this, hdone O pre _ hd ((hIs _ _).put _ hi (by omega) hl rfl)⟩
end Go.Proofs.YtolnhicngepnnaaGreat
