/- The draws so far, in a slice of slices: what stands of them. -/
import Derived.Test.YtjjphiecjhijiaaD2
namespace Go.Proofs.Ytjjphiecjhijiaa
open Go.RowKit Go.Shelf

/-- Slices of these lengths. -/
def LensOf : List Value → List Nat → Prop
  | [], [] => True
  | c :: cs, m :: ds => (∃ ad cap, c = .slice ad m cap) ∧ LensOf cs ds
  | _, _ => False
theorem LensOf.snoc : ∀ {cs : List Value} {ds : List Nat}, LensOf cs ds → ∀ (ad : Option Addr) (d cap : Nat), LensOf (cs ++ [.slice ad d cap]) (ds ++ [d])
  | [], [], _, ad, _, cap => ⟨⟨ad, cap, rfl⟩, trivial⟩
  | _ :: _, _ :: _, h, ad, d, cap => ⟨h.1, LensOf.snoc h.2 ad d cap⟩
theorem LensOf.get : ∀ {cs : List Value} {ds : List Nat}, LensOf cs ds → ∀ (i : Nat) (hi : i < ds.length), ∃ ad cap, cs[i]? = some (.slice ad ds[i] cap)
  | _ :: _, _ :: _, h, 0, _ => by obtain ⟨ad, cap, e⟩ := h.1; exact ⟨ad, cap, by rw [e]; rfl⟩
  | _ :: _, _ :: _, h, i + 1, hi => by simpa using h.2.get i (by simpa using hi)
  | [], [], _, i, hi => by simp at hi
  | [], _ :: _, h, _, _ => h.elim
theorem LensOf.one : ∀ {cs : List Value} {ds : List Nat}, LensOf cs ds → ∀ u ∈ cs, u.oneCell' = true
  | [], [], _, u, hu => by simp at hu
  | _ :: _, _ :: _, h, u, hu => by
    rcases List.mem_cons.1 hu with rfl | hu
    · obtain ⟨ad, cap, rfl⟩ := h.1; rfl
    · exact h.2.one u hu
/-- The lengths of draws: none is greater than the first. -/
def GoodD (m : Nat) (ds : List Nat) : Prop := (∀ d ∈ ds, d ≤ m) ∧ ∀ d, ds.head? = some d → d = m
theorem GoodD.snoc {m d : Nat} {ds : List Nat} (h : GoodD m ds) (hd : d ≤ m) (h0 : ds = [] → d = m) : GoodD m (ds ++ [d]) := by
  refine ⟨fun x hx => ?_, fun x hx => ?_⟩
  · rcases List.mem_append.1 hx with hx | hx
    · exact h.1 x hx
    · rw [List.mem_singleton.1 hx]; exact hd
  · cases ds with
    | nil => simp at hx; rw [← hx]; exact h0 rfl
    | cons y ys => exact h.2 x (by simpa using hx)

/-- The row of the draws in its box, beside the box of the lanes; none of it is in X. -/
def OutI (bO bL L : Nat) (ds : List Nat) (w W : World) (X : Nat → Prop) : Prop :=
  ∃ v cs, W.heap[bO]? = some (.cells #[v] 22 (0, 0)) ∧ W.ownsRow (w.heap.size + 3) 28 1 v ds.length cs ∧ LensOf cs ds ∧ (∀ k, v.ownBlock = some k → ¬ X k) ∧ W.heap[bL]? = some (.cells #[.int .i64 (L : Int)] 3 (0, 0)) ∧ Below w.heap.size w W
theorem own_same {w w' : World} {base sz n : Nat} {e : TypeId} {v : Value} {xs : List Value} (h : w.ownsRow base e sz v n xs) (hs : ∀ k o, v.ownBlock = some k → w.heap[k]? = some o → o.isCells = true → w'.heap[k]? = w.heap[k]?) : w'.ownsRow base e sz v n xs := by
  refine ⟨h.1, h.2.imp id ?_⟩
  rintro ⟨g, cap, cur, rfl, h1, h2, h3⟩
  exact ⟨g, cap, cur, rfl, h1, (hs g _ rfl h2 rfl).trans h2, h3⟩
theorem OutI.move {bO bL L : Nat} {ds : List Nat} {w W W' : World} {X X' Y : Nat → Prop} (h : OutI bO bL L ds w W X) (hb : Below w.heap.size W W') (hX : ¬ X' bO ∧ ¬ X' bL) (hXX : ∀ k, X' k → X k) (hY : ∀ k, k < W.heap.size → Y k → X k)
    (hs : ∀ k o, W.heap[k]? = some o → o.isCells = true → ¬ X' k → W'.heap[k]? = W.heap[k]?) : OutI bO bL L ds w W' Y := by
  obtain ⟨v, cs, h1, h2, h3, h4, h5, h6⟩ := h
  refine ⟨v, cs, (hs bO _ h1 rfl hX.1).trans h1, own_same h2 (fun k o hk ho hc => hs k o ho hc (fun hx => h4 k hk (hXX k hx))), h3, fun k hk hy => ?_, (hs bL _ h5 rfl hX.2).trans h5, h6.trans hb⟩
  exact h4 k hk (hY k (h2.lt k hk).2 hy)
/-- The iterator goes on. -/
theorem OutI.ch {bO bL L B : Nat} {ds : List Nat} {w W W' : World} {O : Nat → Prop} (h : OutI bO bL L ds w W O) (hc : Ch O W W') (hO : ∀ k, O k → B ≤ k) (hB : bO < B ∧ bL < B ∧ w.heap.size ≤ B) : OutI bO bL L ds w W' (NewO O W W') := by
  refine h.move (X' := O) ⟨hc.1.os, hc.1.tape, hc.1.output, hc.1.size, fun k hk => ?_⟩ ⟨fun hx => ?_, fun hx => ?_⟩ (fun k h => h) (fun k hk hn => hn.elim id (fun q => by omega)) (fun k o hk _ hno => hc.2 k (Array.getElem?_eq_some_iff.1 hk).1 hno)
  · refine hc.2 k ?_ (fun hx => ?_)
    · obtain ⟨_, _, _, _, _, _, _, hbel⟩ := h
      have := hbel.size
      omega
    · have := hO k hx; omega
  · have := hO bO hx; omega
  · have := hO bL hx; omega
/-- A loop's record turns. -/
theorem OutI.recs {bO bL L B : Nat} {ds : List Nat} {w W W' : World} {O : Nat → Prop} {row : Option Nat} (h : OutI bO bL L ds w W O) (hg : W.grownBy W' row)
    (hr : ∀ r, row = some r → B ≤ r ∧ ∃ o : Obj, W.heap[r]? = some o ∧ o.isCells = false) (hB : w.heap.size ≤ B) : OutI bO bL L ds w W' O := by
  refine h.move (X' := fun _ => False) ⟨hg.os, hg.tape, hg.output, hg.size, fun k hk => ?_⟩ ⟨id, id⟩ (fun k h => h.elim) (fun k _ h => h) (fun k o hk hc _ => ?_)
  · refine hg.block k ?_ (fun e => ?_)
    · obtain ⟨_, _, _, _, _, _, _, hbel⟩ := h
      have := hbel.size
      omega
    · have := (hr k e.symm).1; omega
  · refine hg.block k (Array.getElem?_eq_some_iff.1 hk).1 (fun e => ?_)
    obtain ⟨_, o', ho', hc'⟩ := hr k e.symm
    rw [hk] at ho'
    injection ho' with ho'
    rw [ho', hc'] at hc
    cases hc
/-- Cells in blocks stand when a loop's record turns. -/
theorem block_recs {W W' : World} {B k : Nat} {o : Obj} {row : Option Nat} (hk : W.heap[k]? = some o) (hc : o.isCells = true) (hg : W.grownBy W' row)
    (hr : ∀ r, row = some r → B ≤ r ∧ ∃ o : Obj, W.heap[r]? = some o ∧ o.isCells = false) : W'.heap[k]? = W.heap[k]? := by
  refine hg.block k (Array.getElem?_eq_some_iff.1 hk).1 (fun e => ?_)
  obtain ⟨_, o', ho', hc'⟩ := hr k e.symm
  rw [hk] at ho'
  injection ho' with ho'
  rw [ho', hc'] at hc
  cases hc
theorem SlK.recs {W W' : World} {B : Nat} {v : Value} {l : List (Int × Int)} {row : Option Nat} (h : SlK W v l) (hg : W.grownBy W' row)
    (hr : ∀ r, row = some r → B ≤ r ∧ ∃ o : Obj, W.heap[r]? = some o ∧ o.isCells = false) : SlK W' v l := by
  obtain ⟨a, cap, rfl, hn, hc⟩ := h
  refine ⟨a, cap, rfl, hn, hc.imp id ?_⟩
  rintro ⟨b, off, rfl, hlt, hc⟩
  refine ⟨b, off, rfl, Nat.lt_of_lt_of_le hlt hg.size, fun i hi => ?_⟩
  have h1 := hc i hi
  obtain ⟨o, ho⟩ : ∃ o, W.heap[b]? = some o := ⟨_, Array.getElem?_eq_getElem hlt⟩
  exact (World.cell?_of_block (a := ⟨b, off + i, none⟩) (block_recs ho (cells_isCells h1 ho) hg hr)).trans h1
end Go.Proofs.Ytjjphiecjhijiaa
