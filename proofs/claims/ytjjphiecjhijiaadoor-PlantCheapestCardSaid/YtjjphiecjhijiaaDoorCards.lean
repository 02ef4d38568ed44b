/-
  DERIVED. GIVEN WITH THE SEED: THE CARDS: each row of YtjjphiecjhijiaaDoorRows.lean that lists a variable, with what it lists TIED to the program's text (the seventh form; the later family's looks); each row that meets fmt, with fmt's text TOLD by the authors' own Lean function (tested against real Go, not proved from fmt's source: count such statements apart). THE CARD IS WHAT COUNTS. Prove the row's statement (the work); the ties are given (YtjjphiecjhijiaaDoorTie.lean); close each card by the builder's one call (the guide's Derived/Test/ToyasCard.lean, 'card_holds'). Laid BY PROGRAM, IN A SANDBOX (cutbox-door.mjs). By AI agents, Wed Nov 11 2026. No macro, syntax, notation, axiom, sorry.
-/
import Derived.Test.YtjjphiecjhijiaaDoorRows
import GoSem.ClaimSeven
namespace Go.Proofs.YtjjphiecjhijiaaDoor
namespace Rows

/-- THE TIED CARD OF 'besomlaw12.PlantCools'. -/
def plantCoolsCard : Claim7 := { stood := { row := plantCoolsRow, standIns := [], harness := (true, "98e795a669b5da70fd090277ed8c58b8aa4305f620608e823b1754817605947f"), looks := false }, kinds := [], alts := [], laidByText := true, laidKinds := [.data, .data], laidTests := true, laidLooks := .later }
def PlantCoolsCardSaid : Prop := Claim7.holds Tryd.pinned (.plain (OpenSpec.ofChange plantCoolsSpec)) plantCoolsCard

/-- THE TIED CARD OF 'besomlaw12.PlantCheapest'. -/
def plantCheapestCard : Claim7 := { stood := { row := plantCheapestRow, standIns := [], harness := (true, "98e795a669b5da70fd090277ed8c58b8aa4305f620608e823b1754817605947f"), looks := false }, kinds := [], alts := [], laidByText := true, laidKinds := [.data, .data], laidTests := true, laidLooks := .later }
def PlantCheapestCardSaid : Prop := Claim7.holds Tryd.pinned (.plain (OpenSpec.ofChange plantCheapestSpec)) plantCheapestCard

/-- THE TIED CARD OF 'besomlaw12.PlantMatches'. -/
def plantMatchesCard : Claim7 := { stood := { row := plantMatchesRow, standIns := [], harness := (true, "98e795a669b5da70fd090277ed8c58b8aa4305f620608e823b1754817605947f"), looks := false }, kinds := [], alts := [], laidByText := true, laidKinds := [.data, .data], laidTests := true, laidLooks := .later }
def PlantMatchesCardSaid : Prop := Claim7.holds Tryd.pinned (.plain (OpenSpec.ofChange plantMatchesSpec)) plantMatchesCard

/-- THE TIED CARD OF 'besomlaw12.PlantPairs'. -/
def plantPairsCard : Claim7 := { stood := { row := plantPairsRow, standIns := [], harness := (true, "98e795a669b5da70fd090277ed8c58b8aa4305f620608e823b1754817605947f"), looks := false }, kinds := [], alts := [], laidByText := true, laidKinds := [.data, .data], laidTests := true, laidLooks := .later }
def PlantPairsCardSaid : Prop := Claim7.holds Tryd.pinned (.plain (OpenSpec.ofChange plantPairsSpec)) plantPairsCard

/-- THE TIED CARD OF 'besomlaw12.PlantRotations'. -/
def plantRotationsCard : Claim7 := { stood := { row := plantRotationsRow, standIns := [], harness := (true, "98e795a669b5da70fd090277ed8c58b8aa4305f620608e823b1754817605947f"), looks := false }, kinds := [], alts := [], laidByText := true, laidKinds := [.data, .data], laidTests := true, laidLooks := .later }
def PlantRotationsCardSaid : Prop := Claim7.holds Tryd.pinned (.plain (OpenSpec.ofChange plantRotationsSpec)) plantRotationsCard

/-- THE TIED CARD OF 'besomlaw12.PlantTurns'. -/
def plantTurnsCard : Claim7 := { stood := { row := plantTurnsRow, standIns := [], harness := (true, "98e795a669b5da70fd090277ed8c58b8aa4305f620608e823b1754817605947f"), looks := false }, kinds := [], alts := [], laidByText := true, laidKinds := [.data, .data], laidTests := true, laidLooks := .later }
def PlantTurnsCardSaid : Prop := Claim7.holds Tryd.pinned (.plain (OpenSpec.ofChange plantTurnsSpec)) plantTurnsCard

/-- THE TIED CARD OF 'besomlaw12.PlantHeats'. -/
def plantHeatsCard : Claim7 := { stood := { row := plantHeatsRow, standIns := [], harness := (true, "98e795a669b5da70fd090277ed8c58b8aa4305f620608e823b1754817605947f"), looks := false }, kinds := [], alts := [], laidByText := true, laidKinds := [.data, .data], laidTests := true, laidLooks := .later }
def PlantHeatsCardSaid : Prop := Claim7.holds Tryd.pinned (.plain (OpenSpec.ofChange plantHeatsSpec)) plantHeatsCard

/-- THE SECOND FORM's CARD OF 'besomlaw12.PlantCools'. -/
def plantCoolsUptoCard : Claim7 := { stood := { row := plantCoolsUptoRow, standIns := [], harness := (true, "98e795a669b5da70fd090277ed8c58b8aa4305f620608e823b1754817605947f"), looks := false }, kinds := [], alts := [], laidByText := true, laidKinds := [.data, .data], laidTests := true, laidLooks := .later }
def PlantCoolsUptoCardSaid : Prop := Claim7.holds Tryd.pinned (.plain (OpenSpec.upto plantCoolsSpec)) plantCoolsUptoCard

/-- THE SECOND FORM's CARD OF 'besomlaw12.PlantCheapest'. -/
def plantCheapestUptoCard : Claim7 := { stood := { row := plantCheapestUptoRow, standIns := [], harness := (true, "98e795a669b5da70fd090277ed8c58b8aa4305f620608e823b1754817605947f"), looks := false }, kinds := [], alts := [], laidByText := true, laidKinds := [.data, .data], laidTests := true, laidLooks := .later }
def PlantCheapestUptoCardSaid : Prop := Claim7.holds Tryd.pinned (.plain (OpenSpec.upto plantCheapestSpec)) plantCheapestUptoCard

/-- THE SECOND FORM's CARD OF 'besomlaw12.PlantMatches'. -/
def plantMatchesUptoCard : Claim7 := { stood := { row := plantMatchesUptoRow, standIns := [], harness := (true, "98e795a669b5da70fd090277ed8c58b8aa4305f620608e823b1754817605947f"), looks := false }, kinds := [], alts := [], laidByText := true, laidKinds := [.data, .data], laidTests := true, laidLooks := .later }
def PlantMatchesUptoCardSaid : Prop := Claim7.holds Tryd.pinned (.plain (OpenSpec.upto plantMatchesSpec)) plantMatchesUptoCard

/-- THE SECOND FORM's CARD OF 'besomlaw12.PlantPairs'. -/
def plantPairsUptoCard : Claim7 := { stood := { row := plantPairsUptoRow, standIns := [], harness := (true, "98e795a669b5da70fd090277ed8c58b8aa4305f620608e823b1754817605947f"), looks := false }, kinds := [], alts := [], laidByText := true, laidKinds := [.data, .data], laidTests := true, laidLooks := .later }
def PlantPairsUptoCardSaid : Prop := Claim7.holds Tryd.pinned (.plain (OpenSpec.upto plantPairsSpec)) plantPairsUptoCard

/-- THE SECOND FORM's CARD OF 'besomlaw12.PlantRotations'. -/
def plantRotationsUptoCard : Claim7 := { stood := { row := plantRotationsUptoRow, standIns := [], harness := (true, "98e795a669b5da70fd090277ed8c58b8aa4305f620608e823b1754817605947f"), looks := false }, kinds := [], alts := [], laidByText := true, laidKinds := [.data, .data], laidTests := true, laidLooks := .later }
def PlantRotationsUptoCardSaid : Prop := Claim7.holds Tryd.pinned (.plain (OpenSpec.upto plantRotationsSpec)) plantRotationsUptoCard

/-- THE SECOND FORM's CARD OF 'besomlaw12.PlantTurns'. -/
def plantTurnsUptoCard : Claim7 := { stood := { row := plantTurnsUptoRow, standIns := [], harness := (true, "98e795a669b5da70fd090277ed8c58b8aa4305f620608e823b1754817605947f"), looks := false }, kinds := [], alts := [], laidByText := true, laidKinds := [.data, .data], laidTests := true, laidLooks := .later }
def PlantTurnsUptoCardSaid : Prop := Claim7.holds Tryd.pinned (.plain (OpenSpec.upto plantTurnsSpec)) plantTurnsUptoCard

/-- THE SECOND FORM's CARD OF 'besomlaw12.PlantHeats'. -/
def plantHeatsUptoCard : Claim7 := { stood := { row := plantHeatsUptoRow, standIns := [], harness := (true, "98e795a669b5da70fd090277ed8c58b8aa4305f620608e823b1754817605947f"), looks := false }, kinds := [], alts := [], laidByText := true, laidKinds := [.data, .data], laidTests := true, laidLooks := .later }
def PlantHeatsUptoCardSaid : Prop := Claim7.holds Tryd.pinned (.plain (OpenSpec.upto plantHeatsSpec)) plantHeatsUptoCard
end Rows
end Go.Proofs.YtjjphiecjhijiaaDoor
