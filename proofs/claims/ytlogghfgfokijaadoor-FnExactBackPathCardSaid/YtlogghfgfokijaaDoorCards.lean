/-
  DERIVED. GIVEN WITH THE SEED: THE CARDS: each row of YtlogghfgfokijaaDoorRows.lean that lists a variable, with what it lists TIED to the program's text (the seventh form; the later family's looks); each row that meets fmt, with fmt's text TOLD by the authors' own Lean function (tested against real Go, not proved from fmt's source: count such statements apart). THE CARD IS WHAT COUNTS. Prove the row's statement (the work); the ties are given (YtlogghfgfokijaaDoorTie.lean); close each card by the builder's one call (the guide's Derived/Test/ToyasCard.lean, 'card_holds'). Laid BY PROGRAM, IN A SANDBOX (cutbox-door.mjs). By AI agents, Wed Nov 11 2026. No macro, syntax, notation, axiom, sorry.
-/
import Derived.Test.YtlogghfgfokijaaDoorRows
import GoSem.ClaimSeven
namespace Go.Proofs.YtlogghfgfokijaaDoor
namespace Rows

/-- THE TIED CARD OF 'laws.FnExactTurnPath'. -/
def fnExactTurnPathCard : Claim7 := { stood := { row := fnExactTurnPathRow, standIns := [], harness := (true, "4a7af583dd0e336f9e42e464aaf7e577b3884854bd7c208883394fa9aee3347a"), looks := true }, kinds := [], alts := [], laidByText := true, laidKinds := [.data, .pinned], laidTests := true, laidLooks := .later }
def FnExactTurnPathCardSaid : Prop := Claim7.holds Tryd.pinned (.plain (OpenSpec.ofChange fnExactTurnPathSpec)) fnExactTurnPathCard

/-- THE TIED CARD OF 'laws.FnExactBackPath'. -/
def fnExactBackPathCard : Claim7 := { stood := { row := fnExactBackPathRow, standIns := [], harness := (true, "4a7af583dd0e336f9e42e464aaf7e577b3884854bd7c208883394fa9aee3347a"), looks := true }, kinds := [], alts := [], laidByText := true, laidKinds := [.data, .pinned], laidTests := true, laidLooks := .later }
def FnExactBackPathCardSaid : Prop := Claim7.holds Tryd.pinned (.plain (OpenSpec.ofChange fnExactBackPathSpec)) fnExactBackPathCard

/-- THE SECOND FORM's CARD OF 'laws.FnExactTurnPath'. -/
def fnExactTurnPathUptoCard : Claim7 := { stood := { row := fnExactTurnPathUptoRow, standIns := [], harness := (true, "4a7af583dd0e336f9e42e464aaf7e577b3884854bd7c208883394fa9aee3347a"), looks := true }, kinds := [], alts := [], laidByText := true, laidKinds := [.data, .pinned], laidTests := true, laidLooks := .later }
def FnExactTurnPathUptoCardSaid : Prop := Claim7.holds Tryd.pinned (.plain (OpenSpec.upto fnExactTurnPathSpec)) fnExactTurnPathUptoCard

/-- THE SECOND FORM's CARD OF 'laws.FnExactBackPath'. -/
def fnExactBackPathUptoCard : Claim7 := { stood := { row := fnExactBackPathUptoRow, standIns := [], harness := (true, "4a7af583dd0e336f9e42e464aaf7e577b3884854bd7c208883394fa9aee3347a"), looks := true }, kinds := [], alts := [], laidByText := true, laidKinds := [.data, .pinned], laidTests := true, laidLooks := .later }
def FnExactBackPathUptoCardSaid : Prop := Claim7.holds Tryd.pinned (.plain (OpenSpec.upto fnExactBackPathSpec)) fnExactBackPathUptoCard
end Rows
end Go.Proofs.YtlogghfgfokijaaDoor
