/-
  DERIVED. GIVEN WITH THE SEED: THE CARDS: each row of YtkljafmdbajfeaaGreatDoorRows.lean that lists a variable, with what it lists TIED to the program's text (the seventh form; the later family's looks); each row that meets fmt, with fmt's text TOLD by the authors' own Lean function (tested against real Go, not proved from fmt's source: count such statements apart). THE CARD IS WHAT COUNTS. Prove the row's statement (the work); the ties are given (YtkljafmdbajfeaaGreatDoorTie.lean); close each card by the builder's one call (the guide's Derived/Test/ToyasCard.lean, 'card_holds'). Laid BY PROGRAM, IN A SANDBOX (cutbox-door.mjs). By AI agents, Wed Nov 11 2026. No macro, syntax, notation, axiom, sorry.
-/
import Derived.Test.YtkljafmdbajfeaaGreatDoorRows
import GoSem.ClaimSeven
namespace Go.Proofs.YtkljafmdbajfeaaGreatDoor
namespace Rows

/-- THE TIED CARD OF 'tinplatelaw01.LinearMinimum'. -/
def linearMinimumCard : Claim7 := { stood := { row := linearMinimumRow, standIns := [], harness := (true, "9af3c5c5537dd77470821a44f866068554a0a29de100c5041d8ffb4997be9994"), looks := false }, kinds := [], alts := [], laidByText := true, laidKinds := [.data], laidTests := true, laidLooks := .later }
def LinearMinimumCardSaid : Prop := Claim7.holds Tryz.pinned (.plain (OpenSpec.ofChange linearMinimumSpec)) linearMinimumCard

/-- THE TIED CARD OF 'tinplatelaw01.LinearDuality'. -/
def linearDualityCard : Claim7 := { stood := { row := linearDualityRow, standIns := [], harness := (true, "9af3c5c5537dd77470821a44f866068554a0a29de100c5041d8ffb4997be9994"), looks := false }, kinds := [], alts := [], laidByText := true, laidKinds := [.data, .data], laidTests := true, laidLooks := .later }
def LinearDualityCardSaid : Prop := Claim7.holds Tryz.pinned (.plain (OpenSpec.ofChange linearDualitySpec)) linearDualityCard

/-- THE TIED CARD OF 'tinplatelaw01.LinearHermite'. -/
def linearHermiteCard : Claim7 := { stood := { row := linearHermiteRow, standIns := [], harness := (true, "9af3c5c5537dd77470821a44f866068554a0a29de100c5041d8ffb4997be9994"), looks := false }, kinds := [], alts := [], laidByText := true, laidKinds := [.data], laidTests := true, laidLooks := .later }
def LinearHermiteCardSaid : Prop := Claim7.holds Tryz.pinned (.plain (OpenSpec.ofChange linearHermiteSpec)) linearHermiteCard

/-- THE TIED CARD OF 'tinplatelaw01.LinearNormal'. -/
def linearNormalCard : Claim7 := { stood := { row := linearNormalRow, standIns := [], harness := (true, "9af3c5c5537dd77470821a44f866068554a0a29de100c5041d8ffb4997be9994"), looks := false }, kinds := [], alts := [], laidByText := true, laidKinds := [.data], laidTests := true, laidLooks := .later }
def LinearNormalCardSaid : Prop := Claim7.holds Tryz.pinned (.plain (OpenSpec.ofChange linearNormalSpec)) linearNormalCard

/-- THE TIED CARD OF 'tinplatelaw01.LinearLeast'. -/
def linearLeastCard : Claim7 := { stood := { row := linearLeastRow, standIns := [], harness := (true, "9af3c5c5537dd77470821a44f866068554a0a29de100c5041d8ffb4997be9994"), looks := false }, kinds := [], alts := [], laidByText := true, laidKinds := [.data], laidTests := true, laidLooks := .later }
def LinearLeastCardSaid : Prop := Claim7.holds Tryz.pinned (.plain (OpenSpec.ofChange linearLeastSpec)) linearLeastCard

/-- THE TIED CARD OF 'tinplatelaw02.BranchRelaxes'. -/
def branchRelaxesCard : Claim7 := { stood := { row := branchRelaxesRow, standIns := [], harness := (true, "9af3c5c5537dd77470821a44f866068554a0a29de100c5041d8ffb4997be9994"), looks := false }, kinds := [], alts := [], laidByText := true, laidKinds := [.data], laidTests := true, laidLooks := .later }
def BranchRelaxesCardSaid : Prop := Claim7.holds Tryz.pinned (.plain (OpenSpec.ofChange branchRelaxesSpec)) branchRelaxesCard

/-- THE TIED CARD OF 'tinplatelaw01.LinearWeak'. -/
def linearWeakCard : Claim7 := { stood := { row := linearWeakRow, standIns := [], harness := (true, "9af3c5c5537dd77470821a44f866068554a0a29de100c5041d8ffb4997be9994"), looks := false }, kinds := [], alts := [], laidByText := true, laidKinds := [.data, .data], laidTests := true, laidLooks := .later }
def LinearWeakCardSaid : Prop := Claim7.holds Tryz.pinned (.plain (OpenSpec.ofChange linearWeakSpec)) linearWeakCard

/-- THE TIED CARD OF 'tinplatelaw01.LinearChecks'. -/
def linearChecksCard : Claim7 := { stood := { row := linearChecksRow, standIns := [], harness := (true, "9af3c5c5537dd77470821a44f866068554a0a29de100c5041d8ffb4997be9994"), looks := false }, kinds := [], alts := [], laidByText := true, laidKinds := [.data], laidTests := true, laidLooks := .later }
def LinearChecksCardSaid : Prop := Claim7.holds Tryz.pinned (.plain (OpenSpec.ofChange linearChecksSpec)) linearChecksCard

/-- THE TIED CARD OF 'tinplatelaw01.LinearSolves'. -/
def linearSolvesCard : Claim7 := { stood := { row := linearSolvesRow, standIns := [], harness := (true, "9af3c5c5537dd77470821a44f866068554a0a29de100c5041d8ffb4997be9994"), looks := false }, kinds := [], alts := [], laidByText := true, laidKinds := [.data], laidTests := true, laidLooks := .later }
def LinearSolvesCardSaid : Prop := Claim7.holds Tryz.pinned (.plain (OpenSpec.ofChange linearSolvesSpec)) linearSolvesCard

/-- THE TIED CARD OF 'tinplatelaw01.LinearRefutes'. -/
def linearRefutesCard : Claim7 := { stood := { row := linearRefutesRow, standIns := [], harness := (true, "9af3c5c5537dd77470821a44f866068554a0a29de100c5041d8ffb4997be9994"), looks := false }, kinds := [], alts := [], laidByText := true, laidKinds := [.data], laidTests := true, laidLooks := .later }
def LinearRefutesCardSaid : Prop := Claim7.holds Tryz.pinned (.plain (OpenSpec.ofChange linearRefutesSpec)) linearRefutesCard

/-- THE TIED CARD OF 'tinplatelaw01.LinearKronecker'. -/
def linearKroneckerCard : Claim7 := { stood := { row := linearKroneckerRow, standIns := [], harness := (true, "9af3c5c5537dd77470821a44f866068554a0a29de100c5041d8ffb4997be9994"), looks := false }, kinds := [], alts := [], laidByText := true, laidKinds := [.data], laidTests := true, laidLooks := .later }
def LinearKroneckerCardSaid : Prop := Claim7.holds Tryz.pinned (.plain (OpenSpec.ofChange linearKroneckerSpec)) linearKroneckerCard

/-- THE SECOND FORM's CARD OF 'tinplatelaw01.LinearMinimum'. -/
def linearMinimumUptoCard : Claim7 := { stood := { row := linearMinimumUptoRow, standIns := [], harness := (true, "9af3c5c5537dd77470821a44f866068554a0a29de100c5041d8ffb4997be9994"), looks := false }, kinds := [], alts := [], laidByText := true, laidKinds := [.data], laidTests := true, laidLooks := .later }
def LinearMinimumUptoCardSaid : Prop := Claim7.holds Tryz.pinned (.plain (OpenSpec.upto linearMinimumSpec)) linearMinimumUptoCard

/-- THE SECOND FORM's CARD OF 'tinplatelaw01.LinearDuality'. -/
def linearDualityUptoCard : Claim7 := { stood := { row := linearDualityUptoRow, standIns := [], harness := (true, "9af3c5c5537dd77470821a44f866068554a0a29de100c5041d8ffb4997be9994"), looks := false }, kinds := [], alts := [], laidByText := true, laidKinds := [.data, .data], laidTests := true, laidLooks := .later }
def LinearDualityUptoCardSaid : Prop := Claim7.holds Tryz.pinned (.plain (OpenSpec.upto linearDualitySpec)) linearDualityUptoCard

/-- THE SECOND FORM's CARD OF 'tinplatelaw01.LinearHermite'. -/
def linearHermiteUptoCard : Claim7 := { stood := { row := linearHermiteUptoRow, standIns := [], harness := (true, "9af3c5c5537dd77470821a44f866068554a0a29de100c5041d8ffb4997be9994"), looks := false }, kinds := [], alts := [], laidByText := true, laidKinds := [.data], laidTests := true, laidLooks := .later }
def LinearHermiteUptoCardSaid : Prop := Claim7.holds Tryz.pinned (.plain (OpenSpec.upto linearHermiteSpec)) linearHermiteUptoCard

/-- THE SECOND FORM's CARD OF 'tinplatelaw01.LinearNormal'. -/
def linearNormalUptoCard : Claim7 := { stood := { row := linearNormalUptoRow, standIns := [], harness := (true, "9af3c5c5537dd77470821a44f866068554a0a29de100c5041d8ffb4997be9994"), looks := false }, kinds := [], alts := [], laidByText := true, laidKinds := [.data], laidTests := true, laidLooks := .later }
def LinearNormalUptoCardSaid : Prop := Claim7.holds Tryz.pinned (.plain (OpenSpec.upto linearNormalSpec)) linearNormalUptoCard

/-- THE SECOND FORM's CARD OF 'tinplatelaw01.LinearLeast'. -/
def linearLeastUptoCard : Claim7 := { stood := { row := linearLeastUptoRow, standIns := [], harness := (true, "9af3c5c5537dd77470821a44f866068554a0a29de100c5041d8ffb4997be9994"), looks := false }, kinds := [], alts := [], laidByText := true, laidKinds := [.data], laidTests := true, laidLooks := .later }
def LinearLeastUptoCardSaid : Prop := Claim7.holds Tryz.pinned (.plain (OpenSpec.upto linearLeastSpec)) linearLeastUptoCard

/-- THE SECOND FORM's CARD OF 'tinplatelaw02.BranchRelaxes'. -/
def branchRelaxesUptoCard : Claim7 := { stood := { row := branchRelaxesUptoRow, standIns := [], harness := (true, "9af3c5c5537dd77470821a44f866068554a0a29de100c5041d8ffb4997be9994"), looks := false }, kinds := [], alts := [], laidByText := true, laidKinds := [.data], laidTests := true, laidLooks := .later }
def BranchRelaxesUptoCardSaid : Prop := Claim7.holds Tryz.pinned (.plain (OpenSpec.upto branchRelaxesSpec)) branchRelaxesUptoCard

/-- THE SECOND FORM's CARD OF 'tinplatelaw01.LinearWeak'. -/
def linearWeakUptoCard : Claim7 := { stood := { row := linearWeakUptoRow, standIns := [], harness := (true, "9af3c5c5537dd77470821a44f866068554a0a29de100c5041d8ffb4997be9994"), looks := false }, kinds := [], alts := [], laidByText := true, laidKinds := [.data, .data], laidTests := true, laidLooks := .later }
def LinearWeakUptoCardSaid : Prop := Claim7.holds Tryz.pinned (.plain (OpenSpec.upto linearWeakSpec)) linearWeakUptoCard

/-- THE SECOND FORM's CARD OF 'tinplatelaw01.LinearChecks'. -/
def linearChecksUptoCard : Claim7 := { stood := { row := linearChecksUptoRow, standIns := [], harness := (true, "9af3c5c5537dd77470821a44f866068554a0a29de100c5041d8ffb4997be9994"), looks := false }, kinds := [], alts := [], laidByText := true, laidKinds := [.data], laidTests := true, laidLooks := .later }
def LinearChecksUptoCardSaid : Prop := Claim7.holds Tryz.pinned (.plain (OpenSpec.upto linearChecksSpec)) linearChecksUptoCard

/-- THE SECOND FORM's CARD OF 'tinplatelaw01.LinearSolves'. -/
def linearSolvesUptoCard : Claim7 := { stood := { row := linearSolvesUptoRow, standIns := [], harness := (true, "9af3c5c5537dd77470821a44f866068554a0a29de100c5041d8ffb4997be9994"), looks := false }, kinds := [], alts := [], laidByText := true, laidKinds := [.data], laidTests := true, laidLooks := .later }
def LinearSolvesUptoCardSaid : Prop := Claim7.holds Tryz.pinned (.plain (OpenSpec.upto linearSolvesSpec)) linearSolvesUptoCard

/-- THE SECOND FORM's CARD OF 'tinplatelaw01.LinearRefutes'. -/
def linearRefutesUptoCard : Claim7 := { stood := { row := linearRefutesUptoRow, standIns := [], harness := (true, "9af3c5c5537dd77470821a44f866068554a0a29de100c5041d8ffb4997be9994"), looks := false }, kinds := [], alts := [], laidByText := true, laidKinds := [.data], laidTests := true, laidLooks := .later }
def LinearRefutesUptoCardSaid : Prop := Claim7.holds Tryz.pinned (.plain (OpenSpec.upto linearRefutesSpec)) linearRefutesUptoCard

/-- THE SECOND FORM's CARD OF 'tinplatelaw01.LinearKronecker'. -/
def linearKroneckerUptoCard : Claim7 := { stood := { row := linearKroneckerUptoRow, standIns := [], harness := (true, "9af3c5c5537dd77470821a44f866068554a0a29de100c5041d8ffb4997be9994"), looks := false }, kinds := [], alts := [], laidByText := true, laidKinds := [.data], laidTests := true, laidLooks := .later }
def LinearKroneckerUptoCardSaid : Prop := Claim7.holds Tryz.pinned (.plain (OpenSpec.upto linearKroneckerSpec)) linearKroneckerUptoCard
end Rows
end Go.Proofs.YtkljafmdbajfeaaGreatDoor
