/- A loop over an iterator that writes to cells of its own, where the rounds and the iterator may panic: the law. -/
import Derived.Test.YtolnhicngepnnaaGreatRG
namespace Go.Proofs.YtolnhicngepnnaaGreat
open Go.RowKit Go.Shelf

section at_
variable {f : FuncId} {fn : Func} {F : Fence} {n : Nat} {P : Program} {Q : Exit → Act → World → Prop} {a : Act} {w : World}
/-- A walk in the frames of one function. -/
def WpAt (f : FuncId) (F : Fence) (n : Nat) (P : Program) (c : Code) (Q : Exit → Act → World → Prop) (a : Act) (w : World) : Prop :=
  ∀ (b : Frame) (k : List Item) (cs : List Frame), b.roundOf = F.round → b.fn = f → F.fn f → F.room (cs.length + 1 + n) →
    ∃ e a' w', Q e a' w' ∧ ArrivesIn (Machine.fenced P F) P (lone (b.atR a (.code c :: k)) cs w) b k cs e a' w'
theorem WpAt.of {c : Code} (h : c.wpIn F n P Q a w) : WpAt f F n P c Q a w := fun b k cs h1 h2 h3 h4 => h b k cs h1 (h2 ▸ h3) h4
theorem WpAt.mono {c : Code} {Q' : Exit → Act → World → Prop} (h : WpAt f F n P c Q a w) (hq : ∀ e a w, Q e a w → Q' e a w) : WpAt f F n P c Q' a w :=
  fun b k cs h1 h2 h3 h4 => let ⟨e, a', w', q, r⟩ := h b k cs h1 h2 h3 h4; ⟨e, a', w', hq _ _ _ q, r⟩
theorem WpAt.seq {x y : Code} (h : WpAt f F n P x (Exit.then (WpAt f F n P y Q) Q) a w) : WpAt f F n P (.seq x y) Q a w := by
  intro b k cs hro hb hF hr
  have s0 : (lone (b.atR a (.code (.seq x y) :: k)) cs w).fenced P F := fenced_calm (hb ▸ hF) hr rfl
  obtain ⟨e, a1, w1, q1, r1⟩ := h b (.code y :: k) cs hro hb hF hr
  cases e with
  | normal =>
    obtain ⟨e2, a2, w2, q2, r2⟩ := q1 b k cs hro hb hF hr
    exact ⟨e2, a2, w2, q2, .of_steps (.head s0 stepR_seq r1) r2⟩
  | _ => exact ⟨_, a1, w1, q1, .of_steps (.one s0 stepR_seq) (.pass (x := .code y) rfl (fun _ _ => .inl (by simp)) r1)⟩
theorem callsIn_of_at {c : Code} {args : Array Value} {R : Ending → World → Prop} (hf : P.funcs[f]? = some fn) (hb : fn.body = some c) (hF : F.fn f)
    (h : WpAt f F n P c (bodyPostM F n P fn R) { tmps := args ++ Array.replicate (fn.ntmps - args.size) undef, defers := [] } w) (hro : F.round = none) : CallsIn F n P f args w R := by
  refine ⟨hF, fun cs hr => ?_⟩
  obtain ⟨b, hbd⟩ : ∃ b : Frame, b = { (default : Frame) with fn := f, kind := .normal, roundOf := none } := ⟨_, rfl⟩
  have ent : Frame.enter P f args .normal = b.atR { tmps := args ++ Array.replicate (fn.ntmps - args.size) undef, defers := [] } [.code c] := by
    rw [hbd]; simp [Frame.enter, Frame.atR, hf, hb]
  have hbf : b.fn = f := by rw [hbd]
  have hbk : b.kind = .normal := by rw [hbd]
  have hbr : b.roundOf = none := by rw [hbd]
  obtain ⟨e, a1, w1, q1, r1⟩ := h b [] cs (by rw [hbr, hro]) hbf hF hr
  rw [← ent] at r1
  have hFb : F.fn b.fn := by rw [hbf]; exact hF
  have out : ∀ (md : FrameMode) (td : List Item), LeavesInM F n P fn a1.tmps R a1.defers md w1 → StepsIn (Machine.fenced P F) P (lone (Frame.enter P f args .normal) cs w) (lone { b.atR a1 td with mode := md } cs w1) →
      ∃ e w' fr, R e w' ∧ ComesIn (Machine.fenced P F) P (lone (Frame.enter P f args .normal) cs w) (lone fr cs w') e ∧ fr.fn = f ∧ fr.leaving P w' e := fun md td hq hs => by
    obtain ⟨e2, w2, fr2, hR, hs2, hfn2, hl2⟩ := leaves_stepsInM a1.defers md w1 { b.atR a1 td with mode := md } cs rfl rfl rfl (by show P.funcs[b.fn]? = _; rw [hbf]; exact hf) hbk hFb hr hq
    exact ⟨e2, w2, fr2, hR, ComesIn.of_steps hs hs2, hfn2.trans hbf, hl2⟩
  cases e with
  | normal => exact out .returning [] q1 (StepsIn.trans r1 (.one (fenced_calm (fr := b.atR a1 []) hFb hr rfl) (stepR_end hbr)))
  | ret =>
    obtain ⟨td, hs⟩ := r1.1 hbr
    exact out .returning td q1 hs
  | panic ch =>
    obtain ⟨td, hs⟩ := r1
    exact out (.panicking ch) td q1 hs
  | exit id => exact q1.elim
  | goto l => exact q1.elim
  | outgrown => exact ⟨.outgrown, w1, b, q1, r1.resolve_left (by rw [hbk]; simp), hbf, trivial⟩
/-- How a loop's call ends: the loop is left at its end, or by a panic. -/
def rangeEnd (P : Program) (l : Nat) (Q : Exit → Act → World → Prop) (a' : Act) : Ending → World → Prop
  | .returned _, w3 => ∃ w4, (Instr.endLoop l).run P w3 = .ok none w4 ∧ Q .normal a' w4
  | .panicked ch, w3 => Q (.panic ch) a' w3
  | .outgrown, _ => False
theorem WpAt.range {g : Operand} {ps : Array Tmp} {assign body : Code} {l : Nat} {mark : List Deferred} {w1 : World} {d : Deferred} {gf : FuncId} {args : Array Value}
    (he : (Instr.enterLoop f a.tmps ps assign body F.round).run P w = .ok (l, mark) w1) (hres : (resolve a.eval (rangeCall g l) 0).run P w1 = .ok d w1)
    (hlead : ∀ f', Target.leads P w1 d.target d.args = some f' → F.fn f') (hinv : (invoke d.target d.args).run P w1 = .ok (.enter gf args) w1) (hn : F.depth.isSome = true → 1 ≤ n)
    (hFg : F.fn gf) (hc : CallsIn F (n - 1) P gf args w1 (rangeEnd P l Q { a with defers := mark ++ a.defers })) : WpAt f F n P (.rangeFunc g ps assign body) Q a w := by
  intro b k cs hro hb hF hr
  have hFb : F.fn b.fn := by rw [hb]; exact hF
  rw [← hro, ← hb] at he
  have s0 : (lone (b.atR a (.code (.rangeFunc g ps assign body) :: k)) cs w).fenced P F := by
    refine fenced_lone (.inl hFb) (fun f' hf' => hlead f' ?_) (Fence.room_le hr (by omega))
    have hev := Frame.eval_atR b a (.code (.rangeFunc g ps assign body) :: k)
    simp only [Frame.atR] at hev
    simp only [Frame.about, Frame.atR, he, hev, hres] at hf'
    exact hf'
  have s1 := stepR_rangeFunc (P := P) (b := b) (a := a) (k := k) (cs := cs) (w := w) he hres hinv
  have hroom : F.room ((b.atR { a with defers := mark ++ a.defers } (.inRangeFunc l :: k) :: cs).length + 1 + (n - 1)) := Fence.room_enter hr hn
  obtain ⟨e, w3, fr, hR, hs, hfn, hl⟩ := hc.2 (b.atR { a with defers := mark ++ a.defers } (.inRangeFunc l :: k) :: cs) hroom
  cases e with
  | outgrown => exact hR.elim
  | returned v =>
    obtain ⟨w4, hend, hq⟩ := hR
    have i2 : (lone fr (b.atR { a with defers := mark ++ a.defers } (.inRangeFunc l :: k) :: cs) w3).fenced P F := fenced_leaving (hfn ▸ hFg) hroom hl
    refine ⟨.normal, _, w4, hq, .head s0 s1 (StepsIn.trans hs (.head i2 ?_ (.one (fenced_calm (fr := b.atR { a with defers := mark ++ a.defers } (.endRangeFunc l :: k)) hFb hr rfl) (stepR_endRangeFunc hend))))⟩
    rw [← finish_atR_inRangeFunc l v]; exact step_leave_returned hl
  | panicked ch =>
    have i2 : (lone fr (b.atR { a with defers := mark ++ a.defers } (.inRangeFunc l :: k) :: cs) w3).fenced P F := fenced_leaving (hfn ▸ hFg) hroom hl
    refine ⟨.panic ch, _, w3, hR, .inRangeFunc l :: k, .head s0 s1 (StepsIn.trans hs (.one i2 ?_))⟩
    rw [← Frame.raise_atR]; exact step_leave_panicked hl
/-- How a round's body is left, where it may panic. -/
def roundEnd (P : Program) (l : Nat) (R : Ending → World → Prop) : Exit → Act → World → Prop
  | .normal, _, w => ∃ v w', (Instr.endRound l none).run P w = .ok v w' ∧ R (.returned v) w'
  | .panic ch, a, w => a.defers = [] ∧ R (.panicked ch) w
  | _, _, _ => False
theorem roundIn_of_wpInP {l : Nat} {tmps : Array Value} {assign body : Code} {R : Ending → World → Prop} (hff : P.funcs[f]? = some fn) (hF : F.fn f)
    (h : assign.wpIn (F.inRound l) n P (Exit.then (fun a1 w1 => ∃ w2, (Instr.beginRound l).run P w1 = .ok () w2 ∧ body.wpIn (F.inRound l) n P (roundEnd P l R) a1 w2) (fun _ _ _ => False)) { tmps := tmps, defers := [] } w) :
    RoundIn F n P l f tmps assign body w R := by
  refine ⟨hF, fun c cs hr => ?_⟩
  obtain ⟨b, hbd⟩ : ∃ b : Frame, b = { (default : Frame) with fn := f, kind := .normal, roundOf := some l } := ⟨_, rfl⟩
  have ent : Frame.round l f tmps assign body .normal = b.atR { tmps := tmps, defers := [] } [.code assign, .beginRound, .code body] := by rw [hbd]; simp [Frame.round, Frame.atR]
  have hbf : b.fn = f := by rw [hbd]
  have hbk : b.kind = .normal := by rw [hbd]
  have hbr : b.roundOf = some l := by rw [hbd]
  have hr' : (F.inRound l).room ((c :: cs).length + 1 + n) := hr
  have hF' : (F.inRound l).fn b.fn := by rw [hbf]; exact hF
  obtain ⟨e, a1, w1, q1, r1⟩ := h b [.beginRound, .code body] (c :: cs) hbr hF' hr'
  rw [← ent] at r1
  cases e with
  | normal =>
    obtain ⟨w2, hbg, hbody⟩ := q1
    have s1 : StepsIn (Machine.fenced P (F.inRound l)) P (lone (b.atR a1 [.beginRound, .code body]) (c :: cs) w1) (lone (b.atR a1 [.code body]) (c :: cs) w2) := .one (fenced_calm (fr := b.atR a1 [.beginRound, .code body]) hF' hr' rfl) (stepR_beginRound hbr hbg)
    obtain ⟨e2, a2, w3, q2, r2⟩ := hbody b [] (c :: cs) hbr hF' hr'
    cases e2 with
    | normal =>
      obtain ⟨v, w4, hend, hR⟩ := q2
      exact ⟨.returned v, w4, hR, (StepsIn.trans r1 s1).trans (StepsIn.trans r2 (.one (fenced_calm (fr := b.atR a2 []) hF' hr' rfl) (stepR_round_end hbr hbk hend)))⟩
    | panic ch =>
      obtain ⟨hd, hR⟩ := q2
      obtain ⟨td, hs⟩ := r2
      have hl : ({ b.atR a2 td with mode := .panicking ch } : Frame).leaving P w3 (.panicked ch) := ⟨rfl, hd, fn, by show P.funcs[b.fn]? = _; rw [hbf]; exact hff⟩
      exact ⟨.panicked ch, w3, hR, (StepsIn.trans r1 s1).trans (StepsIn.trans hs (.one (fenced_leaving (F := F.inRound l) (n := n) hF' hr' hl) (step_leave_panicked hl)))⟩
    | _ => exact q2.elim
  | _ => exact q1.elim
end at_

/-- How the call of an iterator ends: it has handed out all, or it panics. -/
def SPostP {α : Type} (J : (Nat → Prop) → List α → World → Prop) (Jp : List PanicEntry → World → Prop) (Dn : List α → World → Prop) : Ending → World → Prop
  | .returned _, W' => ∃ O pre, Dn pre W' ∧ J O pre W'
  | .panicked ch, W' => Jp ch W'
  | .outgrown, _ => False
/-- The iterator hands out values, one behind the other, each one as Nx says, whatever the rounds do that keep what it owns (O0 and what it makes) and what it reads; at its end Dn holds; if it panics, Pn; a round may panic. -/
def SeqP {α : Type} (F : Fence) (n : Nat) (P : Program) (g : Nat) (lb : Array Value) (encs : α → Array Value) (K O0 : Nat → Prop) (Nx : List α → α → World → Prop) (Dn : List α → World → Prop) (Pn : List α → List PanicEntry → World → Prop) (w : World) : Prop :=
  ∀ (l : Nat) (J : (Nat → Prop) → List α → World → Prop) (Jp : List PanicEntry → World → Prop) (W : World), Below w.heap.size w W →
    (∀ O pre W1 W2, J O pre W1 → Ch O W1 W2 → J (NewO O W1 W2) pre W2) →
    (∀ O pre x W1, J O pre W1 → Nx pre x W1 → YieldAt F (n - 1) P l (encs x) W1 fun e W' =>
      (e = .returned (.bool true) ∧ J O (pre ++ [x]) W' ∧ W1.heap.size ≤ W'.heap.size ∧ ∀ k, O k ∨ K k → W'.heap[k]? = W1.heap[k]?) ∨ ∃ ch, e = .panicked ch ∧ Jp ch W') →
    (∀ O pre ch W1, J O pre W1 → Pn pre ch W1 → Jp ch W1) →
    J O0 [] W →
    CallsIn F n P g (#[.func (.yield l) #[] #[]] ++ lb) W (SPostP J Jp Dn)
/-- How a round's body is left. -/
def postP {α : Type} (B : Nat) (K O : Nat → Prop) (I : (Nat → Prop) → List α → World → Prop) (Px : List PanicEntry → World → Prop) (xs : List α) (W : World) : Exit → Act → World → Prop
  | .normal, _, W' => KeepsFrom B W W' ∧ (∀ k, O k ∨ K k → W'.heap[k]? = W.heap[k]?) ∧ I O xs W'
  | .panic ch, a, W' => a.defers = [] ∧ KeepsFrom B W W' ∧ Px ch W'
  | _, _, _ => False
theorem at_rangeP {α : Type} {f : FuncId} {fn : Func} {F : Fence} {n : Nat} {P : Program} {g : Operand} {ps : Array Tmp} {assign body : Code} {Q : Exit → Act → World → Prop} {a : Act} {w : World}
    (hff : P.funcs[f]? = some fn) (hFf : F.fn f) (hro : F.round = none) (h1 : 1 ≤ n) {gf : Nat} {lb : Array Value} (hg : a.eval g = .func (.func gf) #[] lb) (hFg : F.fn gf) (eg : ∀ args w, (callFunc gf args).run P w = .ok (.enter gf args) w)
    {encs : α → Array Value} {K O0 : Nat → Prop} {Nx : List α → α → World → Prop} {Dn : List α → World → Prop} {Pn : List α → List PanicEntry → World → Prop} {w0 : World} (hseq : SeqP F (n - 1) P gf lb encs K O0 Nx Dn Pn w0)
    (hb0 : Below w0.heap.size w0 w) (hps : ∀ x, (encs x).size = ps.size) (hK : ∀ k, K k ∨ O0 k → k < w.heap.size)
    (I : (Nat → Prop) → List α → World → Prop) (Ia : (Nat → Prop) → List α → α → Act → World → Prop) (Px : List PanicEntry → World → Prop)
    (hI : ∀ O pre W W', I O pre W → (∀ k, O k → (O0 k ∨ w.heap.size + 2 ≤ k) ∧ k < W.heap.size) → w.heap.size + 2 ≤ W.heap.size → Ch O W W' → I (NewO O W W') pre W')
    (hIs : ∀ O pre, StR w.heap.size (I O pre)) (hIas : ∀ O pre x a', StR w.heap.size (Ia O pre x a')) (hDs : ∀ pre, StR w.heap.size (Dn pre))
    (h0 : I O0 [] w)
    (hassign : ∀ (l : Nat) O pre x W, Nx pre x W → I O pre W → (∀ k, O k → (O0 k ∨ w.heap.size + 2 ≤ k) ∧ k < W.heap.size) → w.heap.size + 2 ≤ W.heap.size →
      assign.wpIn (F.inRound l) (n - 1 - 1) P (Exit.then (fun a' W' => KeepsFrom w.heap.size W W' ∧ (∀ k, O k ∨ K k → W'.heap[k]? = W.heap[k]?) ∧ Ia O pre x a' W') (fun _ _ _ => False)) { tmps := (ps.zip (encs x)).foldl (fun t (p, v) => t.setIfInBounds p v) a.tmps, defers := [] } W)
    (hbody : ∀ (l : Nat) O pre x a' W, w.heap.size ≤ l → (∃ r, W.heap[l]? = some (.loop r)) → Ia O pre x a' W → (∀ k, O k → (O0 k ∨ w.heap.size + 2 ≤ k) ∧ k < W.heap.size) → w.heap.size + 2 ≤ W.heap.size →
      body.wpIn (F.inRound l) (n - 1 - 1) P (postP w.heap.size K O I Px (pre ++ [x]) W) a' W)
    (hpi : ∀ O pre ch W, Pn pre ch W → I O pre W → Px ch W)
    (hdone : ∀ O pre D W, w.heap.size ≤ D → Dn pre W → I O pre W → W.heap[D]? = some (.deferred (some [])) → Q .normal { a with defers := { target := .collected D, args := #[] } :: a.defers } W)
    (hpanic : ∀ ch D W, w.heap.size ≤ D → Px ch W → W.heap[D]? = some (.deferred (some [])) → Q (.panic ch) { a with defers := { target := .collected D, args := #[] } :: a.defers } W) :
    WpAt f F n P (.rangeFunc g ps assign body) Q a w := by
  obtain ⟨rec, hrec⟩ : ∃ rec : LoopState → Option Code → Loop, rec = fun st pe => { state := st, pending := pe, fn := f, tmps := a.tmps, params := ps, assign, body, defers := w.heap.size } := ⟨_, rfl⟩
  obtain ⟨W1, hW1⟩ : ∃ W1, (w.alloc (.deferred (some []))).alloc (.loop (rec .ready none)) = W1 := ⟨_, rfl⟩
  have hz1 : W1.heap.size = w.heap.size + 2 := by rw [← hW1]; simp
  have hL1 : W1.heap[w.heap.size + 1]? = some (.loop (rec .ready none)) := by rw [← hW1]; exact heap_alloc2_new w _ _
  have hK1 : W1.heap[w.heap.size]? = some (.deferred (some [])) := by rw [← hW1]; exact heap_alloc2_old w _ _
  have hI1 : I O0 [] W1 := by rw [← hW1]; exact (hIs _ _).new _ ((hIs _ _).new _ h0)
  have hb1 : Below w0.heap.size w0 W1 := by
    rw [← hW1]; exact (hb0.alloc hb0.size _).alloc (Nat.le_trans hb0.size (by simp)) _
  refine WpAt.range (l := w.heap.size + 1) (mark := [{ target := .collected w.heap.size, args := #[] }]) (w1 := W1) (d := { target := .fn (.func gf) lb, args := #[.func (.yield (w.heap.size + 1)) #[] #[]] }) (gf := gf)
    (args := #[.func (.yield (w.heap.size + 1)) #[] #[]] ++ lb) ?_ ?_ ?_ ?_ (fun _ => h1) hFg ?_
  · rw [hro, ← hW1, hrec]; exact run_enterLoop_outer _ _ _ _ _
  · simp only [resolve, hg]
    simp [go_sem]
  · intro f' hf'; simp [Target.leads] at hf'; subst hf'; exact hFg
  · simp [invoke, go_sem, eg]
  · refine (hseq (w.heap.size + 1)
      (fun O pre W => (∀ k, O k → (O0 k ∨ w.heap.size + 2 ≤ k) ∧ k < W.heap.size) ∧ w.heap.size + 2 ≤ W.heap.size ∧ I O pre W ∧ W.heap[w.heap.size + 1]? = some (.loop (rec .ready none)) ∧ W.heap[w.heap.size]? = some (.deferred (some [])))
      (fun ch W => Px ch W ∧ W.heap[w.heap.size]? = some (.deferred (some [])))
      W1 hb1 ?_ ?_ ?_ ⟨fun k h => ⟨.inl h, by have := hK k (.inr h); omega⟩, by omega, hI1, hL1, hK1⟩).mono ?_
    · rintro O pre A B ⟨hO, hz, hi, hl, hk⟩ hc
      have hsz := hc.1.size
      have hno : ∀ k, w.heap.size ≤ k → k < w.heap.size + 2 → ¬ O k := fun k h1 h2 h => by
        rcases (hO k h).1 with h3 | h3
        · have := hK k (.inr h3); omega
        · omega
      refine ⟨?_, by omega, hI O pre A B hi hO hz hc, ?_, ?_⟩
      · rintro k (h | h)
        · have := hO k h; exact ⟨this.1, by omega⟩
        · exact ⟨.inr (by omega), h.2⟩
      · exact (hc.2 _ (by omega) (hno _ (by omega) (by omega))).trans hl
      · exact (hc.2 _ (by omega) (hno _ (by omega) (by omega))).trans hk
    · rintro O pre x W ⟨hO, hz, hi, hl, hk⟩ hx
      have hy := run_yield (P := P) (args := encs x) hl (by rw [hrec]; exact hps x)
      rw [hrec] at hy
      refine ⟨f, _, assign, body, hy, roundIn_of_wpInP hff hFf (wpIn_mono (hassign _ O pre x W hx hi hO hz) ?_)⟩
      rintro e a' W' he
      cases e with
      | normal =>
        obtain ⟨hkf, hsame, hia⟩ := he
        have hl' := hkf.same _ _ (by omega) hl rfl
        have hk' := hkf.same _ _ (Nat.le_refl _) hk rfl
        have hlt : w.heap.size + 1 < W'.heap.size := (Array.getElem?_eq_some_iff.1 hl').1
        refine ⟨_, run_beginRound hl' (by rw [hrec]), ?_⟩
        have hl2 : (W'.putObj (w.heap.size + 1) (.loop { rec .ready none with state := .busy })).heap[w.heap.size + 1]? = some (.loop { rec .ready none with state := .busy }) := World.putObj_heap_same hlt
        have hk2 : (W'.putObj (w.heap.size + 1) (.loop { rec .ready none with state := .busy })).heap[w.heap.size]? = some (.deferred (some [])) := (World.putObj_heap_other (by omega)).trans hk'
        have hsz := hkf.size
        have hO2 : ∀ k, O k → (O0 k ∨ w.heap.size + 2 ≤ k) ∧ k < (W'.putObj (w.heap.size + 1) (.loop { rec .ready none with state := .busy })).heap.size := fun k h => by
          rw [psz]
          have := hO k h
          exact ⟨this.1, by omega⟩
        have hz2 : w.heap.size + 2 ≤ (W'.putObj (w.heap.size + 1) (.loop { rec .ready none with state := .busy })).heap.size := by
          rw [psz]
          omega
        refine wpIn_mono (hbody _ O pre x a' _ (by omega) ⟨_, hl2⟩ ((hIas _ _ _ _).put _ hia (by omega) hl' rfl) hO2 hz2) ?_
        rintro e a3 W3 hp
        cases e with
        | normal =>
          obtain ⟨hk3, hs3, hi3⟩ := hp
          have hl3 := hk3.same _ _ (by omega) hl2 rfl
          have hd3 := hk3.same _ _ (Nat.le_refl _) hk2 rfl
          have hr := run_endRound (P := P) none hl3
          have hlt3 : w.heap.size + 1 < W3.heap.size := (Array.getElem?_eq_some_iff.1 hl3).1
          have hKO : ∀ k, O k ∨ K k → k ≠ w.heap.size + 1 := fun k h => by
            rcases h with h | h
            · rcases (hO k h).1 with h3 | h3
              · have := hK k (.inr h3); omega
              · omega
            · have := hK k (.inl h); omega
          have hs3z := hk3.size
          rw [psz] at hs3z
          rw [hrec] at hr ⊢
          refine ⟨_, _, hr, .inl ⟨rfl, ⟨?_, ?_, ?_, ?_, ?_⟩, ?_, ?_⟩⟩
          · intro k h
            rw [psz]
            have := hO k h
            exact ⟨this.1, by omega⟩
          · rw [psz]
            omega
          · exact (hIs _ _).put _ hi3 (by omega) hl3 rfl
          · exact World.putObj_heap_same hlt3
          · exact (World.putObj_heap_other (by omega)).trans hd3
          · rw [psz]
            omega
          · intro k h
            have hne := hKO k h
            rw [World.putObj_heap_other (by omega), hs3 k h, World.putObj_heap_other (by omega), hsame k h]
        | panic ch =>
          obtain ⟨hd, hk3, hpx⟩ := hp
          exact ⟨hd, .inr ⟨ch, rfl, hpx, hk3.same _ _ (Nat.le_refl _) hk2 rfl⟩⟩
        | _ => exact hp.elim
      | _ => exact he.elim
    · rintro O pre ch W ⟨hO, hz, hi, hl, hk⟩ hp
      exact ⟨hpi O pre ch W hp hi, hk⟩
    · intro e W2 hs
      cases e with
      | outgrown => exact hs.elim
      | panicked ch => exact hpanic ch _ W2 (Nat.le_refl _) hs.1 hs.2
      | returned v =>
        obtain ⟨O, pre, hd, hO, hz, hi, hl, hk⟩ := hs
        exact ⟨_, by have := run_endLoop (P := P) hl (by rw [hrec]; simp); rw [hrec] at this; exact this, hdone O pre _ _ (Nat.le_refl _) ((hDs _).put _ hd (by omega) hl rfl) ((hIs _ _).put _ hi (by omega) hl rfl) ((World.putObj_heap_other (by omega)).trans hk)⟩
end Go.Proofs.YtolnhicngepnnaaGreat
