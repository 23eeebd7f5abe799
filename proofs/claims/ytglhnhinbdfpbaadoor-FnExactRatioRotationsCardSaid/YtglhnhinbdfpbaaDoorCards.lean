/-
  DERIVED. GIVEN WITH THE SEED: THE CARDS: each row of YtglhnhinbdfpbaaDoorRows.lean that lists a variable, with what it lists TIED to the program's text (the seventh form; the later family's looks); each row that meets fmt, with fmt's text TOLD by the authors' own Lean function (tested against real Go, not proved from fmt's source: count such statements apart). THE CARD IS WHAT COUNTS. Prove the row's statement (the work); the ties are given (YtglhnhinbdfpbaaDoorTie.lean); close each card by the builder's one call (the guide's Derived/Test/ToyasCard.lean, 'card_holds'). Laid BY PROGRAM, IN A SANDBOX (cutbox-door.mjs). By AI agents, Wed Nov 11 2026. No macro, syntax, notation, axiom, sorry.
-/
import Derived.Test.YtglhnhinbdfpbaaDoorRows
import GoSem.ClaimSeven
namespace Go.Proofs.YtglhnhinbdfpbaaDoor
namespace Rows

/-- THE TIED CARD OF 'laws.FnExactRankNeverBehind'. -/
def fnExactRankNeverBehindCard : Claim7 := { stood := { row := fnExactRankNeverBehindRow, standIns := [], harness := (true, "8beccc2c1e15817ee2f7ee7272d893dfc4225a1c2e695c083e0cdda68ec7e730"), looks := false }, kinds := [], alts := [], laidByText := true, laidKinds := [.data, .pinned], laidTests := true, laidLooks := .later }
def FnExactRankNeverBehindCardSaid : Prop := Claim7.holds Tryd.pinned (.plain (OpenSpec.ofChange fnExactRankNeverBehindSpec)) fnExactRankNeverBehindCard

/-- THE TIED CARD OF 'laws.FnExactRatioRotations'. -/
def fnExactRatioRotationsCard : Claim7 := { stood := { row := fnExactRatioRotationsRow, standIns := [], harness := (true, "8beccc2c1e15817ee2f7ee7272d893dfc4225a1c2e695c083e0cdda68ec7e730"), looks := false }, kinds := [], alts := [], laidByText := true, laidKinds := [.data, .pinned], laidTests := true, laidLooks := .later }
def FnExactRatioRotationsCardSaid : Prop := Claim7.holds Tryd.pinned (.plain (OpenSpec.ofChange fnExactRatioRotationsSpec)) fnExactRatioRotationsCard

/-- THE SECOND FORM's CARD OF 'laws.FnExactRankNeverBehind'. -/
def fnExactRankNeverBehindUptoCard : Claim7 := { stood := { row := fnExactRankNeverBehindUptoRow, standIns := [], harness := (true, "8beccc2c1e15817ee2f7ee7272d893dfc4225a1c2e695c083e0cdda68ec7e730"), looks := false }, kinds := [], alts := [], laidByText := true, laidKinds := [.data, .pinned], laidTests := true, laidLooks := .later }
def FnExactRankNeverBehindUptoCardSaid : Prop := Claim7.holds Tryd.pinned (.plain (OpenSpec.upto fnExactRankNeverBehindSpec)) fnExactRankNeverBehindUptoCard

/-- THE SECOND FORM's CARD OF 'laws.FnExactRatioRotations'. -/
def fnExactRatioRotationsUptoCard : Claim7 := { stood := { row := fnExactRatioRotationsUptoRow, standIns := [], harness := (true, "8beccc2c1e15817ee2f7ee7272d893dfc4225a1c2e695c083e0cdda68ec7e730"), looks := false }, kinds := [], alts := [], laidByText := true, laidKinds := [.data, .pinned], laidTests := true, laidLooks := .later }
def FnExactRatioRotationsUptoCardSaid : Prop := Claim7.holds Tryd.pinned (.plain (OpenSpec.upto fnExactRatioRotationsSpec)) fnExactRatioRotationsUptoCard
end Rows
end Go.Proofs.YtglhnhinbdfpbaaDoor
