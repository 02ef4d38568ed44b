/-
  No cell of these rows narrows 'for every input' (looked for: loops, veiled, ifaces, maps, wideKeys, modest, calm, conditions, laid).
  DERIVED. THE GIVEN ROWS OF THIS SEAT. 4 by the template 'for every input the law returns true; each argument reads behind the call as it read before'; 0 by the template 'total and deterministic' (their statements: YtolnhicngepnnaaGreatTotals.lean).
  GIVEN WITH THE SEED: the statements are not yours to turn. If you find one false, say at which input.
  Laid BY PROGRAM, IN A SANDBOX (cutbox-rows.mjs): the forced cells as the released guide's own fill.sh prints them over the translation 1894df2ba0c5c52d… (all of the seat's roots in one cut). By AI agents, Wed Nov 11 2026. No macro, syntax, notation, axiom, sorry.
-/
import Derived.Test.YtolnhicngepnnaaGreatChecked
import GoSem.Claim
import GoSem.ClaimJoined
import GoSem.ClaimMapViews
import Derived.JoinedTies
import Derived.KernelRfl
namespace Go.Proofs.YtolnhicngepnnaaGreat
/- THE CELL 'sum', in the pinned program and in every row, IS THE sha256 OF THE DUMP (.gsa) THAT YtolnhicngepnnaaGreatProg.lean LOADS. Nothing in Lean hashes anything: it is a label: what it is worth is what the hold of that sum in a sandbox is worth. -/
noncomputable def Tryz.pinned : Pinned := { name := "ytolnhicngepnnaagreat", sum := "1894df2ba0c5c52df31a6e5450deb9055bf1d4be32a2c8f83ee84a45873762fb", checked := Tryz.checked }
namespace Rows
def none {H : Type} : Left H := { results := [], args := [] }

/-- 'besomtop.TopWeight': WHATEVER THE INPUT: true; the input reads as it did. -/
def topWeightSpec : ChangeSpec := { name := "topWeight", fn := fun _ => fun
  | [d1, d2, d3, d4, d5] => { results := [.lit (.bool true)], args := [d1, d2, d3, d4, d5] }
  | _ => none }
def topWeightRow : OpenClaim := { program := "ytolnhicngepnnaagreat", sum := "1894df2ba0c5c52df31a6e5450deb9055bf1d4be32a2c8f83ee84a45873762fb", func := "besom/besomtop.TopWeight", spec := "topWeight", inPlace := ["math/bits.Add64"], unfollowed := true, recurses := true, named := ["math/bits.divideError", "math/bits.overflowError"], plainKeys := false, apart := false }
def TopWeightSaid : Prop := topWeightRow.holds Tryz.pinned (OpenSpec.ofChange topWeightSpec)

/-- ITS FALSE NEIGHBOUR: 'it returns false'. Refute it at one input. -/
def topWeightWrong : ChangeSpec := { name := "topWeight", fn := fun _ => fun
  | [d1, d2, d3, d4, d5] => { results := [.lit (.bool false)], args := [d1, d2, d3, d4, d5] }
  | _ => none }
def TopWeightWrongFalsely : Prop := topWeightRow.holds Tryz.pinned (OpenSpec.ofChange topWeightWrong)

/-- 'besomtop.TopStanding': WHATEVER THE INPUT: true; the input reads as it did. -/
def topStandingSpec : ChangeSpec := { name := "topStanding", fn := fun _ => fun
  | [d1, d2, d3, d4] => { results := [.lit (.bool true)], args := [d1, d2, d3, d4] }
  | _ => none }
def topStandingRow : OpenClaim := { program := "ytolnhicngepnnaagreat", sum := "1894df2ba0c5c52df31a6e5450deb9055bf1d4be32a2c8f83ee84a45873762fb", func := "besom/besomtop.TopStanding", spec := "topStanding", inPlace := ["math/bits.Add64"], unfollowed := true, recurses := true, named := ["math/bits.divideError", "math/bits.overflowError"], plainKeys := false, apart := false }
def TopStandingSaid : Prop := topStandingRow.holds Tryz.pinned (OpenSpec.ofChange topStandingSpec)

/-- ITS FALSE NEIGHBOUR: 'it returns false'. Refute it at one input. -/
def topStandingWrong : ChangeSpec := { name := "topStanding", fn := fun _ => fun
  | [d1, d2, d3, d4] => { results := [.lit (.bool false)], args := [d1, d2, d3, d4] }
  | _ => none }
def TopStandingWrongFalsely : Prop := topStandingRow.holds Tryz.pinned (OpenSpec.ofChange topStandingWrong)

/-- 'besomtop.TopPairs': WHATEVER THE INPUT: true; the input reads as it did. -/
def topPairsSpec : ChangeSpec := { name := "topPairs", fn := fun _ => fun
  | [d1, d2, d3, d4] => { results := [.lit (.bool true)], args := [d1, d2, d3, d4] }
  | _ => none }
def topPairsRow : OpenClaim := { program := "ytolnhicngepnnaagreat", sum := "1894df2ba0c5c52df31a6e5450deb9055bf1d4be32a2c8f83ee84a45873762fb", func := "besom/besomtop.TopPairs", spec := "topPairs", inPlace := ["math/bits.Add64", "math/bits.Sub64"], unfollowed := true, recurses := true, named := ["math/bits.divideError", "math/bits.overflowError"], plainKeys := false, apart := false }
def TopPairsSaid : Prop := topPairsRow.holds Tryz.pinned (OpenSpec.ofChange topPairsSpec)

/-- ITS FALSE NEIGHBOUR: 'it returns false'. Refute it at one input. -/
def topPairsWrong : ChangeSpec := { name := "topPairs", fn := fun _ => fun
  | [d1, d2, d3, d4] => { results := [.lit (.bool false)], args := [d1, d2, d3, d4] }
  | _ => none }
def TopPairsWrongFalsely : Prop := topPairsRow.holds Tryz.pinned (OpenSpec.ofChange topPairsWrong)

/-- 'besomtop.TopParted': WHATEVER THE INPUT: true; the input reads as it did. -/
def topPartedSpec : ChangeSpec := { name := "topParted", fn := fun _ => fun
  | [d1, d2, d3, d4] => { results := [.lit (.bool true)], args := [d1, d2, d3, d4] }
  | _ => none }
def topPartedRow : OpenClaim := { program := "ytolnhicngepnnaagreat", sum := "1894df2ba0c5c52df31a6e5450deb9055bf1d4be32a2c8f83ee84a45873762fb", func := "besom/besomtop.TopParted", spec := "topParted", inPlace := ["math/bits.Add64", "math/bits.Sub64"], unfollowed := true, recurses := true, named := ["math/bits.divideError", "math/bits.overflowError"], plainKeys := false, apart := false }
def TopPartedSaid : Prop := topPartedRow.holds Tryz.pinned (OpenSpec.ofChange topPartedSpec)

/-- ITS FALSE NEIGHBOUR: 'it returns false'. Refute it at one input. -/
def topPartedWrong : ChangeSpec := { name := "topParted", fn := fun _ => fun
  | [d1, d2, d3, d4] => { results := [.lit (.bool false)], args := [d1, d2, d3, d4] }
  | _ => none }
def TopPartedWrongFalsely : Prop := topPartedRow.holds Tryz.pinned (OpenSpec.ofChange topPartedWrong)

/- THE SECOND FORM. 'bulk': how many values and letters a reading holds, each counted each time it is reached (what is shared counts as often as it is met; a slice's spare places count too). A statement '..UptoSaid' is the law's where the arguments, and the package variables that the reading takes, are together of bulk at most 1048576: NARROWER than '..Said'. Prove '..Said' where nothing that the law and all that it calls make is longer than what came in: it says more and counts as full. Else prove '..UptoSaid'. A law counts once. -/
mutual
def uptoBulk {H : Type} : DataW H → Nat
  | .lit (.string bytes) => bytes.length + 1
  | .lit _ => 1
  | .nil => 1
  | .ptr d => uptoBulk d + 1
  | .slice elems spare => uptoBulkAll elems + uptoBulkAll spare + 1
  | .agg parts => uptoBulkAll parts + 1
  | .iface _ d => uptoBulk d + 1
  | .map entries => uptoBulkEntries entries + 1
  | .held _ => 1
def uptoBulkAll {H : Type} : List (DataW H) → Nat
  | [] => 0
  | d :: r => uptoBulk d + uptoBulkAll r
def uptoBulkEntries {H : Type} : List (Lit × DataW H) → Nat
  | [] => 0
  | x :: r => uptoBulkEntry x + uptoBulkEntries r
def uptoBulkEntry {H : Type} : Lit × DataW H → Nat
  | (.string bytes, d) => bytes.length + uptoBulk d + 1
  | (_, d) => uptoBulk d + 1
 end
def uptoSmall : (H : Type) → List (DataW H) → Bool := fun _ ds => decide (uptoBulkAll ds ≤ 1048576)
def OpenSpec.upto (s : _root_.Go.ChangeSpec) : _root_.Go.OpenSpec := { _root_.Go.OpenSpec.ofChange s with cond := some uptoSmall }

/-- 'besomtop.TopWeight', WHERE WHAT IT READS IS OF BULK AT MOST 1048576: true; the input reads as it did. -/
def topWeightUptoRow : OpenClaim := { program := "ytolnhicngepnnaagreat", sum := "1894df2ba0c5c52df31a6e5450deb9055bf1d4be32a2c8f83ee84a45873762fb", func := "besom/besomtop.TopWeight", spec := "topWeight", inPlace := ["math/bits.Add64"], unfollowed := true, recurses := true, named := ["math/bits.divideError", "math/bits.overflowError"], plainKeys := false, apart := false, narrowed := true }
def TopWeightUptoSaid : Prop := topWeightUptoRow.holds Tryz.pinned (OpenSpec.upto topWeightSpec)

/-- 'besomtop.TopStanding', WHERE WHAT IT READS IS OF BULK AT MOST 1048576: true; the input reads as it did. -/
def topStandingUptoRow : OpenClaim := { program := "ytolnhicngepnnaagreat", sum := "1894df2ba0c5c52df31a6e5450deb9055bf1d4be32a2c8f83ee84a45873762fb", func := "besom/besomtop.TopStanding", spec := "topStanding", inPlace := ["math/bits.Add64"], unfollowed := true, recurses := true, named := ["math/bits.divideError", "math/bits.overflowError"], plainKeys := false, apart := false, narrowed := true }
def TopStandingUptoSaid : Prop := topStandingUptoRow.holds Tryz.pinned (OpenSpec.upto topStandingSpec)

/-- 'besomtop.TopPairs', WHERE WHAT IT READS IS OF BULK AT MOST 1048576: true; the input reads as it did. -/
def topPairsUptoRow : OpenClaim := { program := "ytolnhicngepnnaagreat", sum := "1894df2ba0c5c52df31a6e5450deb9055bf1d4be32a2c8f83ee84a45873762fb", func := "besom/besomtop.TopPairs", spec := "topPairs", inPlace := ["math/bits.Add64", "math/bits.Sub64"], unfollowed := true, recurses := true, named := ["math/bits.divideError", "math/bits.overflowError"], plainKeys := false, apart := false, narrowed := true }
def TopPairsUptoSaid : Prop := topPairsUptoRow.holds Tryz.pinned (OpenSpec.upto topPairsSpec)

/-- 'besomtop.TopParted', WHERE WHAT IT READS IS OF BULK AT MOST 1048576: true; the input reads as it did. -/
def topPartedUptoRow : OpenClaim := { program := "ytolnhicngepnnaagreat", sum := "1894df2ba0c5c52df31a6e5450deb9055bf1d4be32a2c8f83ee84a45873762fb", func := "besom/besomtop.TopParted", spec := "topParted", inPlace := ["math/bits.Add64", "math/bits.Sub64"], unfollowed := true, recurses := true, named := ["math/bits.divideError", "math/bits.overflowError"], plainKeys := false, apart := false, narrowed := true }
def TopPartedUptoSaid : Prop := topPartedUptoRow.holds Tryz.pinned (OpenSpec.upto topPartedSpec)

end Rows
end Go.Proofs.YtolnhicngepnnaaGreat
