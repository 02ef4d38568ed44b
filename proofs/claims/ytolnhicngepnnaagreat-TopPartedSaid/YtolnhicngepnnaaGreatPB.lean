/- Maps with keys of ints, and rows of ints: small laws of this seat. -/
import Derived.Test.YtolnhicngepnnaaGreatPA
import Derived.Test.YtolnhicngepnnaaGreatMap
import Derived.Laws.IdiomRangeMap
namespace Go.Proofs.YtolnhicngepnnaaGreat
open Go.RowKit
variable {P : Program} {K : Type} [DecidableEq K] {enc : K → Value} {t : TypeId}
theorem info3 : (Tryz.prog.info? 3).map (fun i => (i.zero, i.size, i.bytes)) = some (some (.int .i64 0), 1, 8) := by kernel_rfl
/-- What the call owns as a row of ints reads as a slice of ints. -/
theorem own_SlI {w : World} {B n : Nat} {v : Value} {l : List Int} (h : w.ownsRow B 3 1 v n (l.map (.int .i64))) (hn : l.length ≤ 140737488351232) : SlI w v l := by
  have hlen : n = l.length := by have := h.1; simp at this; omega
  subst hlen
  rcases h.2 with ⟨rfl, h0⟩ | ⟨g, cap, cur, rfl, hg, hh, hnc, hcm, hcs, htake⟩
  · have : l = [] := List.length_eq_zero_iff.1 h0
    subst this
    exact ⟨none, 0, rfl, by simp, .inl rfl⟩
  · refine ⟨_, cap, rfl, hn, .inr ⟨g, 0, rfl, (Array.getElem?_eq_some_iff.1 hh).1, ?_⟩⟩
    intro i hi
    rw [Nat.zero_add, cell_of_row w g i cur 3 _ hh]
    have hi' : i < l.length := by simpa using hi
    have h2 : cur.toList[i]? = (l.map (Value.int .i64))[i]? := by
      rw [← htake, List.getElem?_take_of_lt (by omega)]
    rw [← Array.getElem?_toList, h2, List.getElem?_eq_getElem hi]
theorem own_below {w w' : World} {B : Nat} {t : TypeId} {sz n : Nat} {v : Value} {xs : List Value} (h : w.ownsRow B t sz v n xs) (hb : Below w.heap.size w w') : w'.ownsRow B t sz v n xs :=
  h.kept (row := none) ⟨hb.os, hb.tape, hb.output, hb.size, fun k hk _ => hb.block k hk⟩ (by cases e : v.ownBlock <;> simp)
theorem ones (x : Value) (hx : x.oneCell' = true) : ∀ u ∈ [x], u.oneCell' = true := by intro u hu; simp at hu; subst hu; exact hx
theorem own_ne {w : World} {B sz n : Nat} {t : TypeId} {v : Value} {xs : List Value} (h : w.ownsRow B t sz v n xs) {X : Nat} (hX : X < B) : some X ≠ v.ownBlock := by
  intro e
  have := h.lt X e.symm
  omega
theorem own_new {w : World} {B sz n : Nat} {t : TypeId} {v : Value} {xs : List Value} (h : w.ownsRow B t sz v n xs) {X : Nat} (hX : w.heap.size ≤ X) : some X ≠ v.ownBlock := by
  intro e
  have := h.lt X e.symm
  omega
theorem findNow_of {d : TypeDesc} (h : ∀ k k', Instr.sameNow d (enc k) (enc k') = some (decide (k = k'))) (k : K) : ∀ (es : List MapEntry) (m : List (K × Value)) (i : Nat), es.map (fun e => (e.key, e.val)) = m.map (fun x => (enc x.1, x.2)) → Instr.findNow d (enc k) es i = some (findM k m i)
  | [], [], _, _ => rfl
  | [], _ :: _, _, he => by simp at he
  | _ :: _, [], _, he => by simp at he
  | e :: es, (k', v) :: m, i, he => by
    simp only [List.map_cons, List.cons.injEq, Prod.mk.injEq] at he
    obtain ⟨⟨h1, h2⟩, h3⟩ := he
    simp only [Instr.findNow, findM, h1, h]
    by_cases hk : k = k'
    · simp [hk, h2]
    · simp only [hk, decide_false, if_false]
      exact findNow_of h k es m (i + 1) h3
theorem KeyT.of_now {d : TypeDesc} (hd : P.underlying t = some d) (h : ∀ k k', Instr.sameNow d (enc k) (enc k') = some (decide (k = k'))) (hc : ∀ (b : Bool) (k : K) (w : World), (Instr.checkKey b 10000 t (enc k)).run P w = .ok () w) (hs : ∀ k : K, Instr.sameBits 10000 (enc k) (enc k) = true) : KeyT P t K enc where
  find := fun k es m w he => by simp [Instr.findKey, run_underlying hd, findNow_of h k es m 0 he, Result.andThen]
  check := hc
  same := hs
theorem checkKey_int (q : IntKind) (hd : P.underlying t = some (.int q)) (n : Int) (b : Bool) (k : Nat) (w : World) : (Instr.checkKey b (k + 1) t (.int q n)).run P w = .ok () w := by
  simp [Instr.checkKey, run_underlying hd, Result.andThen]
theorem sameBits_int (q : IntKind) (n : Int) (k : Nat) : Instr.sameBits k (.int q n) (.int q n) = true := by
  cases k <;> simp [Instr.sameBits]
theorem KeyT_int (q : IntKind) (hd : P.underlying t = some (.int q)) : KeyT P t Int (fun n => .int q n) :=
  KeyT.of_now hd (fun k k' => by simp [Instr.sameNow]; rw [Bool.eq_iff_iff]; simp) (fun b k w => checkKey_int q hd _ b 9999 w) (fun k => sameBits_int q _ 10000)
def encI (n : Int) : Value := .int .i64 n
theorem keyI3 : KeyT Tryz.prog 3 Int encI := KeyT_int .i64 Tryz.underlying3
theorem cell_lt {w : World} {b o : Nat} {v : Value} (h : w.cell? ⟨b, o, none⟩ = some v) : b < w.heap.size := by
  unfold World.cell? at h
  cases e : w.heap[b]? with
  | none => simp [e] at h
  | some o => exact (Array.getElem?_eq_some_iff.1 e).1
theorem alloc_drewN (w : World) (n : Nat) (o : Obj) : (w.drewN n).alloc o = (w.alloc o).drewN n := rfl
theorem setCell_drewN (w : World) (n : Nat) (a : Addr) (v : Value) : (w.drewN n).setCell a v = (w.setCell a v).drewN n := rfl
theorem far {w w' : World} {X B o : Nat} {v : Value} (hg : w.grownBy w' (some X)) (hc : w.cell? ⟨B, o, none⟩ = some v) (hne : B ≠ X) : w'.cell? ⟨B, o, none⟩ = some v :=
  (World.cell?_of_block (a := ⟨B, o, none⟩) (hg.block _ (cell_lt hc) (fun h => hne (Option.some.inj h)))).trans hc
theorem map_row {K : Type} [DecidableEq K] {enc : K → Value} {w : World} {b : Nat} {M : K → Option Value} (h : MapF enc w b M) : ∀ r, some b = some r → ∃ o : Obj, w.heap[r]? = some o ∧ o.isCells = false := by
  obtain ⟨m, ⟨es, clock, hb, _⟩, _⟩ := h
  intro r e
  obtain rfl := Option.some.inj e
  exact ⟨_, hb, rfl⟩
theorem SlV.kept {K : Type} [DecidableEq K] {enc : K → Value} {w w' : World} {bm n : Nat} {M : K → Option Value} {v : Value} {vs : List Value} (h : SlV w v n vs) (hm : MapF enc w bm M) (hg : w.grownBy w' (some bm)) : SlV w' v n vs := by
  obtain ⟨a, cap, rfl, hn, hc⟩ := h
  refine ⟨a, cap, rfl, hn, hc.imp id ?_⟩
  rintro ⟨b, off, rfl, hlt, hcell⟩
  exact ⟨b, off, rfl, Nat.lt_of_lt_of_le hlt hg.size, fun i hi => cell_kept (hcell i hi) hg (map_row hm)⟩
theorem MapF.grown {K : Type} [DecidableEq K] {enc : K → Value} {w w' : World} {b : Nat} {r : Option Nat} {M : K → Option Value} (h : MapF enc w b M) (hg : w.grownBy w' r) (hne : some b ≠ r) : MapF enc w' b M :=
  h.block (hg.block b h.lt hne)
end Go.Proofs.YtolnhicngepnnaaGreat
