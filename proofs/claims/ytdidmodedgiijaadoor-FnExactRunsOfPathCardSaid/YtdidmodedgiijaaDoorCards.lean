/-
  DERIVED. GIVEN WITH THE SEED: THE CARDS: each row of YtdidmodedgiijaaDoorRows.lean that lists a variable, with what it lists TIED to the program's text (the seventh form; the later family's looks); each row that meets fmt, with fmt's text TOLD by the authors' own Lean function (tested against real Go, not proved from fmt's source: count such statements apart). THE CARD IS WHAT COUNTS. Prove the row's statement (the work); the ties are given (YtdidmodedgiijaaDoorTie.lean); close each card by the builder's one call (the guide's Derived/Test/ToyasCard.lean, 'card_holds'). Laid BY PROGRAM, IN A SANDBOX (cutbox-door.mjs). By AI agents, Wed Nov 11 2026. No macro, syntax, notation, axiom, sorry.
-/
import Derived.Test.YtdidmodedgiijaaDoorRows
import GoSem.ClaimSeven
namespace Go.Proofs.YtdidmodedgiijaaDoor
namespace Rows

/-- THE TIED CARD OF 'laws.FnExactFirstBehind'. -/
def fnExactFirstBehindCard : Claim7 := { stood := { row := fnExactFirstBehindRow, standIns := [], harness := (true, "1e2e4f3cb771e07f9188c677fd9bd08fc05ce5869c84f9743361a1b9e5f36687"), looks := false }, kinds := [], alts := [], laidByText := true, laidKinds := [.data, .pinned], laidTests := true, laidLooks := .later }
def FnExactFirstBehindCardSaid : Prop := Claim7.holds Tryd.pinned (.plain (OpenSpec.ofChange fnExactFirstBehindSpec)) fnExactFirstBehindCard

/-- THE TIED CARD OF 'laws.FnExactFirstNotAhead'. -/
def fnExactFirstNotAheadCard : Claim7 := { stood := { row := fnExactFirstNotAheadRow, standIns := [], harness := (true, "1e2e4f3cb771e07f9188c677fd9bd08fc05ce5869c84f9743361a1b9e5f36687"), looks := false }, kinds := [], alts := [], laidByText := true, laidKinds := [.data, .pinned], laidTests := true, laidLooks := .later }
def FnExactFirstNotAheadCardSaid : Prop := Claim7.holds Tryd.pinned (.plain (OpenSpec.ofChange fnExactFirstNotAheadSpec)) fnExactFirstNotAheadCard

/-- THE TIED CARD OF 'laws.FnExactIsGood'. -/
def fnExactIsGoodCard : Claim7 := { stood := { row := fnExactIsGoodRow, standIns := [], harness := (true, "1e2e4f3cb771e07f9188c677fd9bd08fc05ce5869c84f9743361a1b9e5f36687"), looks := false }, kinds := [], alts := [], laidByText := true, laidKinds := [.data, .pinned], laidTests := true, laidLooks := .later }
def FnExactIsGoodCardSaid : Prop := Claim7.holds Tryd.pinned (.plain (OpenSpec.ofChange fnExactIsGoodSpec)) fnExactIsGoodCard

/-- THE TIED CARD OF 'laws.FnExactIsAhead'. -/
def fnExactIsAheadCard : Claim7 := { stood := { row := fnExactIsAheadRow, standIns := [], harness := (true, "1e2e4f3cb771e07f9188c677fd9bd08fc05ce5869c84f9743361a1b9e5f36687"), looks := false }, kinds := [], alts := [], laidByText := true, laidKinds := [.data, .pinned], laidTests := true, laidLooks := .later }
def FnExactIsAheadCardSaid : Prop := Claim7.holds Tryd.pinned (.plain (OpenSpec.ofChange fnExactIsAheadSpec)) fnExactIsAheadCard

/-- THE TIED CARD OF 'laws.FnExactIsNeverBehind'. -/
def fnExactIsNeverBehindCard : Claim7 := { stood := { row := fnExactIsNeverBehindRow, standIns := [], harness := (true, "1e2e4f3cb771e07f9188c677fd9bd08fc05ce5869c84f9743361a1b9e5f36687"), looks := false }, kinds := [], alts := [], laidByText := true, laidKinds := [.data, .pinned], laidTests := true, laidLooks := .later }
def FnExactIsNeverBehindCardSaid : Prop := Claim7.holds Tryd.pinned (.plain (OpenSpec.ofChange fnExactIsNeverBehindSpec)) fnExactIsNeverBehindCard

/-- THE TIED CARD OF 'laws.FnExactHeightsOf'. -/
def fnExactHeightsOfCard : Claim7 := { stood := { row := fnExactHeightsOfRow, standIns := [], harness := (true, "1e2e4f3cb771e07f9188c677fd9bd08fc05ce5869c84f9743361a1b9e5f36687"), looks := false }, kinds := [], alts := [], laidByText := true, laidKinds := [.data, .pinned], laidTests := true, laidLooks := .later }
def FnExactHeightsOfCardSaid : Prop := Claim7.holds Tryd.pinned (.plain (OpenSpec.ofChange fnExactHeightsOfSpec)) fnExactHeightsOfCard

/-- THE TIED CARD OF 'laws.FnExactRunsOfPath'. -/
def fnExactRunsOfPathCard : Claim7 := { stood := { row := fnExactRunsOfPathRow, standIns := [], harness := (true, "1e2e4f3cb771e07f9188c677fd9bd08fc05ce5869c84f9743361a1b9e5f36687"), looks := false }, kinds := [], alts := [], laidByText := true, laidKinds := [.data, .pinned], laidTests := true, laidLooks := .later }
def FnExactRunsOfPathCardSaid : Prop := Claim7.holds Tryd.pinned (.plain (OpenSpec.ofChange fnExactRunsOfPathSpec)) fnExactRunsOfPathCard

/-- THE TIED CARD OF 'laws.FnExactReturnsOf'. -/
def fnExactReturnsOfCard : Claim7 := { stood := { row := fnExactReturnsOfRow, standIns := [], harness := (true, "1e2e4f3cb771e07f9188c677fd9bd08fc05ce5869c84f9743361a1b9e5f36687"), looks := false }, kinds := [], alts := [], laidByText := true, laidKinds := [.data, .pinned], laidTests := true, laidLooks := .later }
def FnExactReturnsOfCardSaid : Prop := Claim7.holds Tryd.pinned (.plain (OpenSpec.ofChange fnExactReturnsOfSpec)) fnExactReturnsOfCard

/-- THE TIED CARD OF 'laws.FnExactTiesOf'. -/
def fnExactTiesOfCard : Claim7 := { stood := { row := fnExactTiesOfRow, standIns := [], harness := (true, "1e2e4f3cb771e07f9188c677fd9bd08fc05ce5869c84f9743361a1b9e5f36687"), looks := false }, kinds := [], alts := [], laidByText := true, laidKinds := [.data, .pinned], laidTests := true, laidLooks := .later }
def FnExactTiesOfCardSaid : Prop := Claim7.holds Tryd.pinned (.plain (OpenSpec.ofChange fnExactTiesOfSpec)) fnExactTiesOfCard

/-- THE TIED CARD OF 'laws.FnExactRatioRotations'. -/
def fnExactRatioRotationsCard : Claim7 := { stood := { row := fnExactRatioRotationsRow, standIns := [], harness := (true, "1e2e4f3cb771e07f9188c677fd9bd08fc05ce5869c84f9743361a1b9e5f36687"), looks := false }, kinds := [], alts := [], laidByText := true, laidKinds := [.data, .pinned], laidTests := true, laidLooks := .later }
def FnExactRatioRotationsCardSaid : Prop := Claim7.holds Tryd.pinned (.plain (OpenSpec.ofChange fnExactRatioRotationsSpec)) fnExactRatioRotationsCard

/-- THE TIED CARD OF 'laws.FnExactCutAtReturns'. -/
def fnExactCutAtReturnsCard : Claim7 := { stood := { row := fnExactCutAtReturnsRow, standIns := [], harness := (true, "1e2e4f3cb771e07f9188c677fd9bd08fc05ce5869c84f9743361a1b9e5f36687"), looks := false }, kinds := [], alts := [], laidByText := true, laidKinds := [.data, .pinned], laidTests := true, laidLooks := .later }
def FnExactCutAtReturnsCardSaid : Prop := Claim7.holds Tryd.pinned (.plain (OpenSpec.ofChange fnExactCutAtReturnsSpec)) fnExactCutAtReturnsCard

/-- THE TIED CARD OF 'laws.FnExactTreeOfPath'. -/
def fnExactTreeOfPathCard : Claim7 := { stood := { row := fnExactTreeOfPathRow, standIns := [], harness := (true, "1e2e4f3cb771e07f9188c677fd9bd08fc05ce5869c84f9743361a1b9e5f36687"), looks := false }, kinds := [], alts := [], laidByText := true, laidKinds := [.data, .pinned], laidTests := true, laidLooks := .later }
def FnExactTreeOfPathCardSaid : Prop := Claim7.holds Tryd.pinned (.plain (OpenSpec.ofChange fnExactTreeOfPathSpec)) fnExactTreeOfPathCard

/-- THE SECOND FORM's CARD OF 'laws.FnExactFirstBehind'. -/
def fnExactFirstBehindUptoCard : Claim7 := { stood := { row := fnExactFirstBehindUptoRow, standIns := [], harness := (true, "1e2e4f3cb771e07f9188c677fd9bd08fc05ce5869c84f9743361a1b9e5f36687"), looks := false }, kinds := [], alts := [], laidByText := true, laidKinds := [.data, .pinned], laidTests := true, laidLooks := .later }
def FnExactFirstBehindUptoCardSaid : Prop := Claim7.holds Tryd.pinned (.plain (OpenSpec.upto fnExactFirstBehindSpec)) fnExactFirstBehindUptoCard

/-- THE SECOND FORM's CARD OF 'laws.FnExactFirstNotAhead'. -/
def fnExactFirstNotAheadUptoCard : Claim7 := { stood := { row := fnExactFirstNotAheadUptoRow, standIns := [], harness := (true, "1e2e4f3cb771e07f9188c677fd9bd08fc05ce5869c84f9743361a1b9e5f36687"), looks := false }, kinds := [], alts := [], laidByText := true, laidKinds := [.data, .pinned], laidTests := true, laidLooks := .later }
def FnExactFirstNotAheadUptoCardSaid : Prop := Claim7.holds Tryd.pinned (.plain (OpenSpec.upto fnExactFirstNotAheadSpec)) fnExactFirstNotAheadUptoCard

/-- THE SECOND FORM's CARD OF 'laws.FnExactIsGood'. -/
def fnExactIsGoodUptoCard : Claim7 := { stood := { row := fnExactIsGoodUptoRow, standIns := [], harness := (true, "1e2e4f3cb771e07f9188c677fd9bd08fc05ce5869c84f9743361a1b9e5f36687"), looks := false }, kinds := [], alts := [], laidByText := true, laidKinds := [.data, .pinned], laidTests := true, laidLooks := .later }
def FnExactIsGoodUptoCardSaid : Prop := Claim7.holds Tryd.pinned (.plain (OpenSpec.upto fnExactIsGoodSpec)) fnExactIsGoodUptoCard

/-- THE SECOND FORM's CARD OF 'laws.FnExactIsAhead'. -/
def fnExactIsAheadUptoCard : Claim7 := { stood := { row := fnExactIsAheadUptoRow, standIns := [], harness := (true, "1e2e4f3cb771e07f9188c677fd9bd08fc05ce5869c84f9743361a1b9e5f36687"), looks := false }, kinds := [], alts := [], laidByText := true, laidKinds := [.data, .pinned], laidTests := true, laidLooks := .later }
def FnExactIsAheadUptoCardSaid : Prop := Claim7.holds Tryd.pinned (.plain (OpenSpec.upto fnExactIsAheadSpec)) fnExactIsAheadUptoCard

/-- THE SECOND FORM's CARD OF 'laws.FnExactIsNeverBehind'. -/
def fnExactIsNeverBehindUptoCard : Claim7 := { stood := { row := fnExactIsNeverBehindUptoRow, standIns := [], harness := (true, "1e2e4f3cb771e07f9188c677fd9bd08fc05ce5869c84f9743361a1b9e5f36687"), looks := false }, kinds := [], alts := [], laidByText := true, laidKinds := [.data, .pinned], laidTests := true, laidLooks := .later }
def FnExactIsNeverBehindUptoCardSaid : Prop := Claim7.holds Tryd.pinned (.plain (OpenSpec.upto fnExactIsNeverBehindSpec)) fnExactIsNeverBehindUptoCard

/-- THE SECOND FORM's CARD OF 'laws.FnExactHeightsOf'. -/
def fnExactHeightsOfUptoCard : Claim7 := { stood := { row := fnExactHeightsOfUptoRow, standIns := [], harness := (true, "1e2e4f3cb771e07f9188c677fd9bd08fc05ce5869c84f9743361a1b9e5f36687"), looks := false }, kinds := [], alts := [], laidByText := true, laidKinds := [.data, .pinned], laidTests := true, laidLooks := .later }
def FnExactHeightsOfUptoCardSaid : Prop := Claim7.holds Tryd.pinned (.plain (OpenSpec.upto fnExactHeightsOfSpec)) fnExactHeightsOfUptoCard

/-- THE SECOND FORM's CARD OF 'laws.FnExactRunsOfPath'. -/
def fnExactRunsOfPathUptoCard : Claim7 := { stood := { row := fnExactRunsOfPathUptoRow, standIns := [], harness := (true, "1e2e4f3cb771e07f9188c677fd9bd08fc05ce5869c84f9743361a1b9e5f36687"), looks := false }, kinds := [], alts := [], laidByText := true, laidKinds := [.data, .pinned], laidTests := true, laidLooks := .later }
def FnExactRunsOfPathUptoCardSaid : Prop := Claim7.holds Tryd.pinned (.plain (OpenSpec.upto fnExactRunsOfPathSpec)) fnExactRunsOfPathUptoCard

/-- THE SECOND FORM's CARD OF 'laws.FnExactReturnsOf'. -/
def fnExactReturnsOfUptoCard : Claim7 := { stood := { row := fnExactReturnsOfUptoRow, standIns := [], harness := (true, "1e2e4f3cb771e07f9188c677fd9bd08fc05ce5869c84f9743361a1b9e5f36687"), looks := false }, kinds := [], alts := [], laidByText := true, laidKinds := [.data, .pinned], laidTests := true, laidLooks := .later }
def FnExactReturnsOfUptoCardSaid : Prop := Claim7.holds Tryd.pinned (.plain (OpenSpec.upto fnExactReturnsOfSpec)) fnExactReturnsOfUptoCard

/-- THE SECOND FORM's CARD OF 'laws.FnExactTiesOf'. -/
def fnExactTiesOfUptoCard : Claim7 := { stood := { row := fnExactTiesOfUptoRow, standIns := [], harness := (true, "1e2e4f3cb771e07f9188c677fd9bd08fc05ce5869c84f9743361a1b9e5f36687"), looks := false }, kinds := [], alts := [], laidByText := true, laidKinds := [.data, .pinned], laidTests := true, laidLooks := .later }
def FnExactTiesOfUptoCardSaid : Prop := Claim7.holds Tryd.pinned (.plain (OpenSpec.upto fnExactTiesOfSpec)) fnExactTiesOfUptoCard

/-- THE SECOND FORM's CARD OF 'laws.FnExactRatioRotations'. -/
def fnExactRatioRotationsUptoCard : Claim7 := { stood := { row := fnExactRatioRotationsUptoRow, standIns := [], harness := (true, "1e2e4f3cb771e07f9188c677fd9bd08fc05ce5869c84f9743361a1b9e5f36687"), looks := false }, kinds := [], alts := [], laidByText := true, laidKinds := [.data, .pinned], laidTests := true, laidLooks := .later }
def FnExactRatioRotationsUptoCardSaid : Prop := Claim7.holds Tryd.pinned (.plain (OpenSpec.upto fnExactRatioRotationsSpec)) fnExactRatioRotationsUptoCard

/-- THE SECOND FORM's CARD OF 'laws.FnExactCutAtReturns'. -/
def fnExactCutAtReturnsUptoCard : Claim7 := { stood := { row := fnExactCutAtReturnsUptoRow, standIns := [], harness := (true, "1e2e4f3cb771e07f9188c677fd9bd08fc05ce5869c84f9743361a1b9e5f36687"), looks := false }, kinds := [], alts := [], laidByText := true, laidKinds := [.data, .pinned], laidTests := true, laidLooks := .later }
def FnExactCutAtReturnsUptoCardSaid : Prop := Claim7.holds Tryd.pinned (.plain (OpenSpec.upto fnExactCutAtReturnsSpec)) fnExactCutAtReturnsUptoCard

/-- THE SECOND FORM's CARD OF 'laws.FnExactTreeOfPath'. -/
def fnExactTreeOfPathUptoCard : Claim7 := { stood := { row := fnExactTreeOfPathUptoRow, standIns := [], harness := (true, "1e2e4f3cb771e07f9188c677fd9bd08fc05ce5869c84f9743361a1b9e5f36687"), looks := false }, kinds := [], alts := [], laidByText := true, laidKinds := [.data, .pinned], laidTests := true, laidLooks := .later }
def FnExactTreeOfPathUptoCardSaid : Prop := Claim7.holds Tryd.pinned (.plain (OpenSpec.upto fnExactTreeOfPathSpec)) fnExactTreeOfPathUptoCard
end Rows
end Go.Proofs.YtdidmodedgiijaaDoor
