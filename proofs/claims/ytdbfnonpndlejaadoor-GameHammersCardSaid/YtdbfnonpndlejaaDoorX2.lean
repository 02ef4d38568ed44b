/- What every card of this seat needs: the laid tables, a law that returned true. -/
import Derived.Test.YtdbfnonpndlejaaDoorX1
import Derived.Test.YtdbfnonpndlejaaDoorSh
import Derived.Test.YtdbfnonpndlejaaDoorCards
import Derived.Test.YtdbfnonpndlejaaDoorTie
import Derived.ProofKit
import Derived.OpenShut
import Derived.Carry
import Derived.Deep.DeepHandedRow
import Derived.Lib.LaidTab
import Derived.Lib.TrailingZeros
namespace Go.Proofs.YtdbfnonpndlejaaDoor
open Go.ChangeShapes Go.WideShapes Go.ChangeAt Go.RowKit

theorem own : ownKnob Tryd.prog.godebug = none := by kernel_rfl
theorem gPowType : (Tryd.prog.globals[0]?).map (·.type) = some 126 := by kernel_rfl
theorem cells126 : Tryd.prog.cellsOf 126 = 20 := by kernel_rfl
theorem cells119 : Tryd.prog.cellsOf 119 = 1 := by kernel_rfl
theorem laidOut : laidOutB Tryd.prog = true := by kernel_rfl
abbrev laidL : List (String × DataW Unit) := [("math/bits.deBruijn32tab", Rows.laid_math_bits_deBruijn32tab), ("math/bits.deBruijn64tab", Rows.laid_math_bits_deBruijn64tab), ("internal/strconv.uint64pow10", Rows.laid_internal_strconv_uint64pow10)]
theorem tabPow : (Rows.laid_internal_strconv_uint64pow10 : DataW Unit) = Lib.tabData .u64 Lib.pow10Tab := by kernel_rfl
/-- What the rows' list gives: the table's cells. -/
theorem tab_of {W : World} (h : laidMetH Tryd.prog laidL W) : TabW W := by
  obtain ⟨ps, ⟨g0, t0, cs0, fuel0, p0, q0, _, _, _, _, ⟨g1, t1, cs1, fuel1, p1, q1, _, _, _, _, hr, _⟩, _⟩, _⟩ := (show laidMet Tryd.prog laidL W from h)
  obtain ⟨g', t', cs, fuel, p, q, hg', ht', hvar, hd, _, _⟩ := hr
  obtain rfl := Option.some.inj (gPow.symm.trans hg')
  obtain rfl := Option.some.inj (gPowType.symm.trans ht')
  rw [tabPow] at hd
  unfold TabW Lib.TabIs
  rw [hvar, ← Lib.cells_of_tab Tryd.underlying126 Tryd.underlying119 cells119 cells126 hd]
/-- The arguments read behind the call as they did. -/
theorem trodAll_below {H : Type} {enc : TypeId × Value → H} {W W' : World} (hb : Below W.heap.size W W') : ∀ (ts : List TypeId) (vs : List Value) (ds : List (DataW H)) (ps : List MemPlace), (∀ t ∈ ts, Tryd.prog.readableRec t = true ∧ t < Tryd.prog.types.size) → (∀ x ∈ ps, x.block < W.heap.size) →
    DataW.TrodAll enc Tryd.prog W 0 (fun _ => true) true ts vs ds ps → DataW.TrodAll enc Tryd.prog W' 0 (fun b => decide (b < W.heap.size)) true ts vs ds ps := by
  intro ts
  induction ts with
  | nil =>
    intro vs ds ps _ _ h
    obtain ⟨rfl, rfl, rfl⟩ := trodAll_nil h
    exact trodAll_mk0
  | cons t ts ih =>
    intro vs ds ps ht hlt h
    obtain ⟨v, vs1, d, ds1, p, q, rfl, rfl, rfl, h1, h2⟩ := trodAll_cons h
    obtain ⟨hr, hs⟩ := ht t (by simp)
    exact trodAll_cons_mk (Below.trod laidOut hr hs h1 hb (fun x hx => hlt x (by simp [hx]))) (ih vs1 ds1 q (fun u hu => ht u (by simp [hu])) (fun x hx => hlt x (by simp [hx])) h2)
/-- A law that returned true, and left what lay alone. -/
theorem law_post {H : Type} {enc : TypeId × Value → H} {f : Func} {s : ChangeSpec} {W W' : World} {args : Array Value} {ds : List (DataW H)} {before : List MemPlace}
    (hW : DataW.Whole enc Tryd.prog f.params.toList s.vars false W args.toList ds [] before) (hvs : s.vars = []) (hres : f.resultTypes = #[4]) (hrd : ∀ t ∈ f.params.toList, Tryd.prog.readableRec t = true ∧ t < Tryd.prog.types.size)
    (h1 : (s.fn H (ds ++ [])).results = [.lit (.bool true)]) (h2 : (s.fn H (ds ++ [])).args = ds) (h3 : (s.fn H (ds ++ [])).vars = []) (hb : Below W.heap.size W W') :
    s.post enc Tryd.prog f false true false false W args (.bool true) W' := by
  have hW' := hW
  obtain ⟨p, q, hA, hV, rfl, hfz, hnd⟩ := hW
  rw [hvs] at hV
  obtain ⟨_, rfl⟩ := trodVars_none hV
  have hlt : ∀ x ∈ p ++ [], x.block < W.heap.size := fun x hx => hW'.lt x hx
  refine ⟨ds, [], p ++ [], [], p, [], hW', ?_, ?_, ?_, hb.frame _, fun h => by cases h⟩
  · rw [hres, h1]; exact trodAll_mk1 (shut_bool Tryd.underlying4 true)
  · rw [h2]; exact trodAll_below hb _ _ _ _ hrd (fun x hx => hlt x (by simp [hx])) hA
  · rw [hvs, h3]; rfl
/-- A world whose tables are laid: for the witnesses. -/
def putTab (k : IntKind) (zs : List Int) : Obj → Obj
  | .cells _ t frozen => .cells (zs.map fun n => Value.int k n).toArray t frozen
  | o => o
def layTabs (w : World) : World := { w with heap := ((w.heap.modify 2 (putTab .u8 [0, 1, 28, 2, 29, 14, 24, 3, 30, 22, 20, 15, 25, 17, 4, 8, 31, 27, 13, 23, 21, 19, 16, 7, 26, 12, 18, 6, 11, 5, 10, 9])).modify 3 (putTab .u8 (Lib.deBruijn64tab.map fun (n : Nat) => (n : Int)))).modify 0 (putTab .u64 Lib.pow10Tab) }
end Go.Proofs.YtdbfnonpndlejaaDoor
