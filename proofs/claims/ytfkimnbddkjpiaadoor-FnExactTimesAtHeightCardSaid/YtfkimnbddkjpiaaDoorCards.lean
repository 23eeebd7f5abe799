/-
  DERIVED. GIVEN WITH THE SEED: THE CARDS: each row of YtfkimnbddkjpiaaDoorRows.lean that lists a variable, with what it lists TIED to the program's text (the seventh form; the later family's looks); each row that meets fmt, with fmt's text TOLD by the authors' own Lean function (tested against real Go, not proved from fmt's source: count such statements apart). THE CARD IS WHAT COUNTS. Prove the row's statement (the work); the ties are given (YtfkimnbddkjpiaaDoorTie.lean); close each card by the builder's one call (the guide's Derived/Test/ToyasCard.lean, 'card_holds'). Laid BY PROGRAM, IN A SANDBOX (cutbox-door.mjs). By AI agents, Wed Nov 11 2026. No macro, syntax, notation, axiom, sorry.
-/
import Derived.Test.YtfkimnbddkjpiaaDoorRows
import GoSem.ClaimSeven
namespace Go.Proofs.YtfkimnbddkjpiaaDoor
namespace Rows

/-- THE TIED CARD OF 'laws.FnExactIsPath'. -/
def fnExactIsPathCard : Claim7 := { stood := { row := fnExactIsPathRow, standIns := [], harness := (true, "3b98fd5422b456d6d53b5946d2a6038fd9b4d5a5469b5a2cab3f35998b28918e"), looks := false }, kinds := [], alts := [], laidByText := true, laidKinds := [.data, .pinned], laidTests := true, laidLooks := .later }
def FnExactIsPathCardSaid : Prop := Claim7.holds Tryd.pinned (.plain (OpenSpec.ofChange fnExactIsPathSpec)) fnExactIsPathCard

/-- THE TIED CARD OF 'laws.FnExactJoinPaths'. -/
def fnExactJoinPathsCard : Claim7 := { stood := { row := fnExactJoinPathsRow, standIns := [], harness := (true, "3b98fd5422b456d6d53b5946d2a6038fd9b4d5a5469b5a2cab3f35998b28918e"), looks := false }, kinds := [], alts := [], laidByText := true, laidKinds := [.data, .pinned], laidTests := true, laidLooks := .later }
def FnExactJoinPathsCardSaid : Prop := Claim7.holds Tryd.pinned (.plain (OpenSpec.ofChange fnExactJoinPathsSpec)) fnExactJoinPathsCard

/-- THE TIED CARD OF 'laws.FnExactLiftPath'. -/
def fnExactLiftPathCard : Claim7 := { stood := { row := fnExactLiftPathRow, standIns := [], harness := (true, "3b98fd5422b456d6d53b5946d2a6038fd9b4d5a5469b5a2cab3f35998b28918e"), looks := false }, kinds := [], alts := [], laidByText := true, laidKinds := [.data, .pinned], laidTests := true, laidLooks := .later }
def FnExactLiftPathCardSaid : Prop := Claim7.holds Tryd.pinned (.plain (OpenSpec.ofChange fnExactLiftPathSpec)) fnExactLiftPathCard

/-- THE TIED CARD OF 'laws.FnExactWithFirstVote'. -/
def fnExactWithFirstVoteCard : Claim7 := { stood := { row := fnExactWithFirstVoteRow, standIns := [], harness := (true, "3b98fd5422b456d6d53b5946d2a6038fd9b4d5a5469b5a2cab3f35998b28918e"), looks := false }, kinds := [], alts := [], laidByText := true, laidKinds := [.data, .pinned], laidTests := true, laidLooks := .later }
def FnExactWithFirstVoteCardSaid : Prop := Claim7.holds Tryd.pinned (.plain (OpenSpec.ofChange fnExactWithFirstVoteSpec)) fnExactWithFirstVoteCard

/-- THE TIED CARD OF 'laws.FnExactEndHeight'. -/
def fnExactEndHeightCard : Claim7 := { stood := { row := fnExactEndHeightRow, standIns := [], harness := (true, "3b98fd5422b456d6d53b5946d2a6038fd9b4d5a5469b5a2cab3f35998b28918e"), looks := false }, kinds := [], alts := [], laidByText := true, laidKinds := [.data, .pinned], laidTests := true, laidLooks := .later }
def FnExactEndHeightCardSaid : Prop := Claim7.holds Tryd.pinned (.plain (OpenSpec.ofChange fnExactEndHeightSpec)) fnExactEndHeightCard

/-- THE TIED CARD OF 'laws.FnExactIsClosedPath'. -/
def fnExactIsClosedPathCard : Claim7 := { stood := { row := fnExactIsClosedPathRow, standIns := [], harness := (true, "3b98fd5422b456d6d53b5946d2a6038fd9b4d5a5469b5a2cab3f35998b28918e"), looks := false }, kinds := [], alts := [], laidByText := true, laidKinds := [.data, .pinned], laidTests := true, laidLooks := .later }
def FnExactIsClosedPathCardSaid : Prop := Claim7.holds Tryd.pinned (.plain (OpenSpec.ofChange fnExactIsClosedPathSpec)) fnExactIsClosedPathCard

/-- THE TIED CARD OF 'laws.FnExactAreaOfPath'. -/
def fnExactAreaOfPathCard : Claim7 := { stood := { row := fnExactAreaOfPathRow, standIns := [], harness := (true, "3b98fd5422b456d6d53b5946d2a6038fd9b4d5a5469b5a2cab3f35998b28918e"), looks := false }, kinds := [], alts := [], laidByText := true, laidKinds := [.data, .pinned], laidTests := true, laidLooks := .later }
def FnExactAreaOfPathCardSaid : Prop := Claim7.holds Tryd.pinned (.plain (OpenSpec.ofChange fnExactAreaOfPathSpec)) fnExactAreaOfPathCard

/-- THE TIED CARD OF 'laws.FnExactTimesAtHeight'. -/
def fnExactTimesAtHeightCard : Claim7 := { stood := { row := fnExactTimesAtHeightRow, standIns := [], harness := (true, "3b98fd5422b456d6d53b5946d2a6038fd9b4d5a5469b5a2cab3f35998b28918e"), looks := false }, kinds := [], alts := [], laidByText := true, laidKinds := [.data, .pinned], laidTests := true, laidLooks := .later }
def FnExactTimesAtHeightCardSaid : Prop := Claim7.holds Tryd.pinned (.plain (OpenSpec.ofChange fnExactTimesAtHeightSpec)) fnExactTimesAtHeightCard

/-- THE TIED CARD OF 'laws.FnExactHighestOf'. -/
def fnExactHighestOfCard : Claim7 := { stood := { row := fnExactHighestOfRow, standIns := [], harness := (true, "3b98fd5422b456d6d53b5946d2a6038fd9b4d5a5469b5a2cab3f35998b28918e"), looks := false }, kinds := [], alts := [], laidByText := true, laidKinds := [.data, .pinned], laidTests := true, laidLooks := .later }
def FnExactHighestOfCardSaid : Prop := Claim7.holds Tryd.pinned (.plain (OpenSpec.ofChange fnExactHighestOfSpec)) fnExactHighestOfCard

/-- THE TIED CARD OF 'laws.FnExactPeaksOf'. -/
def fnExactPeaksOfCard : Claim7 := { stood := { row := fnExactPeaksOfRow, standIns := [], harness := (true, "3b98fd5422b456d6d53b5946d2a6038fd9b4d5a5469b5a2cab3f35998b28918e"), looks := false }, kinds := [], alts := [], laidByText := true, laidKinds := [.data, .pinned], laidTests := true, laidLooks := .later }
def FnExactPeaksOfCardSaid : Prop := Claim7.holds Tryd.pinned (.plain (OpenSpec.ofChange fnExactPeaksOfSpec)) fnExactPeaksOfCard

/-- THE TIED CARD OF 'laws.FnExactLeadsOf'. -/
def fnExactLeadsOfCard : Claim7 := { stood := { row := fnExactLeadsOfRow, standIns := [], harness := (true, "3b98fd5422b456d6d53b5946d2a6038fd9b4d5a5469b5a2cab3f35998b28918e"), looks := false }, kinds := [], alts := [], laidByText := true, laidKinds := [.data, .pinned], laidTests := true, laidLooks := .later }
def FnExactLeadsOfCardSaid : Prop := Claim7.holds Tryd.pinned (.plain (OpenSpec.ofChange fnExactLeadsOfSpec)) fnExactLeadsOfCard

/-- THE TIED CARD OF 'laws.FnExactLowestOf'. -/
def fnExactLowestOfCard : Claim7 := { stood := { row := fnExactLowestOfRow, standIns := [], harness := (true, "3b98fd5422b456d6d53b5946d2a6038fd9b4d5a5469b5a2cab3f35998b28918e"), looks := false }, kinds := [], alts := [], laidByText := true, laidKinds := [.data, .pinned], laidTests := true, laidLooks := .later }
def FnExactLowestOfCardSaid : Prop := Claim7.holds Tryd.pinned (.plain (OpenSpec.ofChange fnExactLowestOfSpec)) fnExactLowestOfCard

/-- THE SECOND FORM's CARD OF 'laws.FnExactIsPath'. -/
def fnExactIsPathUptoCard : Claim7 := { stood := { row := fnExactIsPathUptoRow, standIns := [], harness := (true, "3b98fd5422b456d6d53b5946d2a6038fd9b4d5a5469b5a2cab3f35998b28918e"), looks := false }, kinds := [], alts := [], laidByText := true, laidKinds := [.data, .pinned], laidTests := true, laidLooks := .later }
def FnExactIsPathUptoCardSaid : Prop := Claim7.holds Tryd.pinned (.plain (OpenSpec.upto fnExactIsPathSpec)) fnExactIsPathUptoCard

/-- THE SECOND FORM's CARD OF 'laws.FnExactJoinPaths'. -/
def fnExactJoinPathsUptoCard : Claim7 := { stood := { row := fnExactJoinPathsUptoRow, standIns := [], harness := (true, "3b98fd5422b456d6d53b5946d2a6038fd9b4d5a5469b5a2cab3f35998b28918e"), looks := false }, kinds := [], alts := [], laidByText := true, laidKinds := [.data, .pinned], laidTests := true, laidLooks := .later }
def FnExactJoinPathsUptoCardSaid : Prop := Claim7.holds Tryd.pinned (.plain (OpenSpec.upto fnExactJoinPathsSpec)) fnExactJoinPathsUptoCard

/-- THE SECOND FORM's CARD OF 'laws.FnExactLiftPath'. -/
def fnExactLiftPathUptoCard : Claim7 := { stood := { row := fnExactLiftPathUptoRow, standIns := [], harness := (true, "3b98fd5422b456d6d53b5946d2a6038fd9b4d5a5469b5a2cab3f35998b28918e"), looks := false }, kinds := [], alts := [], laidByText := true, laidKinds := [.data, .pinned], laidTests := true, laidLooks := .later }
def FnExactLiftPathUptoCardSaid : Prop := Claim7.holds Tryd.pinned (.plain (OpenSpec.upto fnExactLiftPathSpec)) fnExactLiftPathUptoCard

/-- THE SECOND FORM's CARD OF 'laws.FnExactWithFirstVote'. -/
def fnExactWithFirstVoteUptoCard : Claim7 := { stood := { row := fnExactWithFirstVoteUptoRow, standIns := [], harness := (true, "3b98fd5422b456d6d53b5946d2a6038fd9b4d5a5469b5a2cab3f35998b28918e"), looks := false }, kinds := [], alts := [], laidByText := true, laidKinds := [.data, .pinned], laidTests := true, laidLooks := .later }
def FnExactWithFirstVoteUptoCardSaid : Prop := Claim7.holds Tryd.pinned (.plain (OpenSpec.upto fnExactWithFirstVoteSpec)) fnExactWithFirstVoteUptoCard

/-- THE SECOND FORM's CARD OF 'laws.FnExactEndHeight'. -/
def fnExactEndHeightUptoCard : Claim7 := { stood := { row := fnExactEndHeightUptoRow, standIns := [], harness := (true, "3b98fd5422b456d6d53b5946d2a6038fd9b4d5a5469b5a2cab3f35998b28918e"), looks := false }, kinds := [], alts := [], laidByText := true, laidKinds := [.data, .pinned], laidTests := true, laidLooks := .later }
def FnExactEndHeightUptoCardSaid : Prop := Claim7.holds Tryd.pinned (.plain (OpenSpec.upto fnExactEndHeightSpec)) fnExactEndHeightUptoCard

/-- THE SECOND FORM's CARD OF 'laws.FnExactIsClosedPath'. -/
def fnExactIsClosedPathUptoCard : Claim7 := { stood := { row := fnExactIsClosedPathUptoRow, standIns := [], harness := (true, "3b98fd5422b456d6d53b5946d2a6038fd9b4d5a5469b5a2cab3f35998b28918e"), looks := false }, kinds := [], alts := [], laidByText := true, laidKinds := [.data, .pinned], laidTests := true, laidLooks := .later }
def FnExactIsClosedPathUptoCardSaid : Prop := Claim7.holds Tryd.pinned (.plain (OpenSpec.upto fnExactIsClosedPathSpec)) fnExactIsClosedPathUptoCard

/-- THE SECOND FORM's CARD OF 'laws.FnExactAreaOfPath'. -/
def fnExactAreaOfPathUptoCard : Claim7 := { stood := { row := fnExactAreaOfPathUptoRow, standIns := [], harness := (true, "3b98fd5422b456d6d53b5946d2a6038fd9b4d5a5469b5a2cab3f35998b28918e"), looks := false }, kinds := [], alts := [], laidByText := true, laidKinds := [.data, .pinned], laidTests := true, laidLooks := .later }
def FnExactAreaOfPathUptoCardSaid : Prop := Claim7.holds Tryd.pinned (.plain (OpenSpec.upto fnExactAreaOfPathSpec)) fnExactAreaOfPathUptoCard

/-- THE SECOND FORM's CARD OF 'laws.FnExactTimesAtHeight'. -/
def fnExactTimesAtHeightUptoCard : Claim7 := { stood := { row := fnExactTimesAtHeightUptoRow, standIns := [], harness := (true, "3b98fd5422b456d6d53b5946d2a6038fd9b4d5a5469b5a2cab3f35998b28918e"), looks := false }, kinds := [], alts := [], laidByText := true, laidKinds := [.data, .pinned], laidTests := true, laidLooks := .later }
def FnExactTimesAtHeightUptoCardSaid : Prop := Claim7.holds Tryd.pinned (.plain (OpenSpec.upto fnExactTimesAtHeightSpec)) fnExactTimesAtHeightUptoCard

/-- THE SECOND FORM's CARD OF 'laws.FnExactHighestOf'. -/
def fnExactHighestOfUptoCard : Claim7 := { stood := { row := fnExactHighestOfUptoRow, standIns := [], harness := (true, "3b98fd5422b456d6d53b5946d2a6038fd9b4d5a5469b5a2cab3f35998b28918e"), looks := false }, kinds := [], alts := [], laidByText := true, laidKinds := [.data, .pinned], laidTests := true, laidLooks := .later }
def FnExactHighestOfUptoCardSaid : Prop := Claim7.holds Tryd.pinned (.plain (OpenSpec.upto fnExactHighestOfSpec)) fnExactHighestOfUptoCard

/-- THE SECOND FORM's CARD OF 'laws.FnExactPeaksOf'. -/
def fnExactPeaksOfUptoCard : Claim7 := { stood := { row := fnExactPeaksOfUptoRow, standIns := [], harness := (true, "3b98fd5422b456d6d53b5946d2a6038fd9b4d5a5469b5a2cab3f35998b28918e"), looks := false }, kinds := [], alts := [], laidByText := true, laidKinds := [.data, .pinned], laidTests := true, laidLooks := .later }
def FnExactPeaksOfUptoCardSaid : Prop := Claim7.holds Tryd.pinned (.plain (OpenSpec.upto fnExactPeaksOfSpec)) fnExactPeaksOfUptoCard

/-- THE SECOND FORM's CARD OF 'laws.FnExactLeadsOf'. -/
def fnExactLeadsOfUptoCard : Claim7 := { stood := { row := fnExactLeadsOfUptoRow, standIns := [], harness := (true, "3b98fd5422b456d6d53b5946d2a6038fd9b4d5a5469b5a2cab3f35998b28918e"), looks := false }, kinds := [], alts := [], laidByText := true, laidKinds := [.data, .pinned], laidTests := true, laidLooks := .later }
def FnExactLeadsOfUptoCardSaid : Prop := Claim7.holds Tryd.pinned (.plain (OpenSpec.upto fnExactLeadsOfSpec)) fnExactLeadsOfUptoCard

/-- THE SECOND FORM's CARD OF 'laws.FnExactLowestOf'. -/
def fnExactLowestOfUptoCard : Claim7 := { stood := { row := fnExactLowestOfUptoRow, standIns := [], harness := (true, "3b98fd5422b456d6d53b5946d2a6038fd9b4d5a5469b5a2cab3f35998b28918e"), looks := false }, kinds := [], alts := [], laidByText := true, laidKinds := [.data, .pinned], laidTests := true, laidLooks := .later }
def FnExactLowestOfUptoCardSaid : Prop := Claim7.holds Tryd.pinned (.plain (OpenSpec.upto fnExactLowestOfSpec)) fnExactLowestOfUptoCard
end Rows
end Go.Proofs.YtfkimnbddkjpiaaDoor
