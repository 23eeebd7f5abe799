/-
  DERIVED. GIVEN WITH THE SEED: THE CARDS: each row of YtepheolianmkbaaDoorRows.lean that lists a variable, with what it lists TIED to the program's text (the seventh form; the later family's looks); each row that meets fmt, with fmt's text TOLD by the authors' own Lean function (tested against real Go, not proved from fmt's source: count such statements apart). THE CARD IS WHAT COUNTS. Prove the row's statement (the work); the ties are given (YtepheolianmkbaaDoorTie.lean); close each card by the builder's one call (the guide's Derived/Test/ToyasCard.lean, 'card_holds'). Laid BY PROGRAM, IN A SANDBOX (cutbox-door.mjs). By AI agents, Wed Nov 11 2026. No macro, syntax, notation, axiom, sorry.
-/
import Derived.Test.YtepheolianmkbaaDoorRows
import GoSem.ClaimSeven
namespace Go.Proofs.YtepheolianmkbaaDoor
namespace Rows

/-- THE TIED CARD OF 'laws.FnExactTurnPath'. -/
def fnExactTurnPathCard : Claim7 := { stood := { row := fnExactTurnPathRow, standIns := [], harness := (true, "441b52898715e85f2c8d06fcbcc00fea25c6c1b149258be72f08ea97f64ff276"), looks := true }, kinds := [], alts := [], laidByText := true, laidKinds := [.data, .pinned], laidTests := true, laidLooks := .later }
def FnExactTurnPathCardSaid : Prop := Claim7.holds Tryd.pinned (.plain (OpenSpec.ofChange fnExactTurnPathSpec)) fnExactTurnPathCard

/-- THE TIED CARD OF 'laws.FnExactBackPath'. -/
def fnExactBackPathCard : Claim7 := { stood := { row := fnExactBackPathRow, standIns := [], harness := (true, "441b52898715e85f2c8d06fcbcc00fea25c6c1b149258be72f08ea97f64ff276"), looks := true }, kinds := [], alts := [], laidByText := true, laidKinds := [.data, .pinned], laidTests := true, laidLooks := .later }
def FnExactBackPathCardSaid : Prop := Claim7.holds Tryd.pinned (.plain (OpenSpec.ofChange fnExactBackPathSpec)) fnExactBackPathCard

/-- THE TIED CARD OF 'laws.FnExactRankOfPath'. -/
def fnExactRankOfPathCard : Claim7 := { stood := { row := fnExactRankOfPathRow, standIns := [], harness := (true, "441b52898715e85f2c8d06fcbcc00fea25c6c1b149258be72f08ea97f64ff276"), looks := true }, kinds := [], alts := [], laidByText := true, laidKinds := [.data, .pinned], laidTests := true, laidLooks := .later }
def FnExactRankOfPathCardSaid : Prop := Claim7.holds Tryd.pinned (.plain (OpenSpec.ofChange fnExactRankOfPathSpec)) fnExactRankOfPathCard

/-- THE SECOND FORM's CARD OF 'laws.FnExactTurnPath'. -/
def fnExactTurnPathUptoCard : Claim7 := { stood := { row := fnExactTurnPathUptoRow, standIns := [], harness := (true, "441b52898715e85f2c8d06fcbcc00fea25c6c1b149258be72f08ea97f64ff276"), looks := true }, kinds := [], alts := [], laidByText := true, laidKinds := [.data, .pinned], laidTests := true, laidLooks := .later }
def FnExactTurnPathUptoCardSaid : Prop := Claim7.holds Tryd.pinned (.plain (OpenSpec.upto fnExactTurnPathSpec)) fnExactTurnPathUptoCard

/-- THE SECOND FORM's CARD OF 'laws.FnExactBackPath'. -/
def fnExactBackPathUptoCard : Claim7 := { stood := { row := fnExactBackPathUptoRow, standIns := [], harness := (true, "441b52898715e85f2c8d06fcbcc00fea25c6c1b149258be72f08ea97f64ff276"), looks := true }, kinds := [], alts := [], laidByText := true, laidKinds := [.data, .pinned], laidTests := true, laidLooks := .later }
def FnExactBackPathUptoCardSaid : Prop := Claim7.holds Tryd.pinned (.plain (OpenSpec.upto fnExactBackPathSpec)) fnExactBackPathUptoCard

/-- THE SECOND FORM's CARD OF 'laws.FnExactRankOfPath'. -/
def fnExactRankOfPathUptoCard : Claim7 := { stood := { row := fnExactRankOfPathUptoRow, standIns := [], harness := (true, "441b52898715e85f2c8d06fcbcc00fea25c6c1b149258be72f08ea97f64ff276"), looks := true }, kinds := [], alts := [], laidByText := true, laidKinds := [.data, .pinned], laidTests := true, laidLooks := .later }
def FnExactRankOfPathUptoCardSaid : Prop := Claim7.holds Tryd.pinned (.plain (OpenSpec.upto fnExactRankOfPathSpec)) fnExactRankOfPathUptoCard
end Rows
end Go.Proofs.YtepheolianmkbaaDoor
