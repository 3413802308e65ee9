/-
  DERIVED. GIVEN WITH THE SEED: THE CARDS: each row of YtignbealfpbpoaaGreatDoorRows.lean that lists a variable, with what it lists TIED to the program's text (the seventh form; the later family's looks); each row that meets fmt, with fmt's text TOLD by the authors' own Lean function (tested against real Go, not proved from fmt's source: count such statements apart). THE CARD IS WHAT COUNTS. Prove the row's statement (the work); the ties are given (YtignbealfpbpoaaGreatDoorTie.lean); close each card by the builder's one call (the guide's Derived/Test/ToyasCard.lean, 'card_holds'). Laid BY PROGRAM, IN A SANDBOX (cutbox-door.mjs). By AI agents, Wed Nov 11 2026. No macro, syntax, notation, axiom, sorry.
-/
import Derived.Test.YtignbealfpbpoaaGreatDoorRows
import GoSem.ClaimSeven
namespace Go.Proofs.YtignbealfpbpoaaGreatDoor
namespace Rows

/-- THE TIED CARD OF 'drownerlaw05.DeedTexts'. -/
def deedTextsCard : Claim7 := { stood := { row := deedTextsRow, standIns := [], harness := (true, "d10dd671272a14330f650648f32e7823c1453eecb76dabf7807531a45e6744f6"), looks := true }, kinds := [], alts := [], laidByText := true, laidKinds := [.data, .data, .data, .sentinel, .sentinel, .listed, .data], laidTests := true, laidLooks := .later }
def DeedTextsCardSaid : Prop := Claim7.holds Tryz.pinned (.plain (OpenSpec.ofChange deedTextsSpec)) deedTextsCard

/-- THE TIED CARD OF 'drownerlaw05.DeedParses'. -/
def deedParsesCard : Claim7 := { stood := { row := deedParsesRow, standIns := [], harness := (true, "d10dd671272a14330f650648f32e7823c1453eecb76dabf7807531a45e6744f6"), looks := true }, kinds := [], alts := [], laidByText := true, laidKinds := [.data, .data, .data, .sentinel, .sentinel, .listed, .data], laidTests := true, laidLooks := .later }
def DeedParsesCardSaid : Prop := Claim7.holds Tryz.pinned (.plain (OpenSpec.ofChange deedParsesSpec)) deedParsesCard

/-- THE TIED CARD OF 'drownerlaw05.DeedPrints'. -/
def deedPrintsCard : Claim7 := { stood := { row := deedPrintsRow, standIns := [], harness := (true, "d10dd671272a14330f650648f32e7823c1453eecb76dabf7807531a45e6744f6"), looks := true }, kinds := [], alts := [], laidByText := true, laidKinds := [.data, .data, .data, .sentinel, .sentinel, .listed, .data], laidTests := true, laidLooks := .later }
def DeedPrintsCardSaid : Prop := Claim7.holds Tryz.pinned (.plain (OpenSpec.ofChange deedPrintsSpec)) deedPrintsCard

/-- THE TIED CARD OF 'drownerlaw05.DeedChains'. -/
def deedChainsCard : Claim7 := { stood := { row := deedChainsRow, standIns := [], harness := (true, "d10dd671272a14330f650648f32e7823c1453eecb76dabf7807531a45e6744f6"), looks := true }, kinds := [], alts := [], laidByText := true, laidKinds := [.data, .data, .data, .sentinel, .sentinel, .listed, .data], laidTests := true, laidLooks := .later }
def DeedChainsCardSaid : Prop := Claim7.holds Tryz.pinned (.plain (OpenSpec.ofChange deedChainsSpec)) deedChainsCard

/-- THE TIED CARD OF 'drownerlaw05.DeedRests'. -/
def deedRestsCard : Claim7 := { stood := { row := deedRestsRow, standIns := [], harness := (true, "d10dd671272a14330f650648f32e7823c1453eecb76dabf7807531a45e6744f6"), looks := true }, kinds := [], alts := [], laidByText := true, laidKinds := [.data, .data, .data, .sentinel, .sentinel, .listed, .data], laidTests := true, laidLooks := .later }
def DeedRestsCardSaid : Prop := Claim7.holds Tryz.pinned (.plain (OpenSpec.ofChange deedRestsSpec)) deedRestsCard

/-- THE TIED CARD OF 'drownerlaw05.DeedKnown'. -/
def deedKnownCard : Claim7 := { stood := { row := deedKnownRow, standIns := [], harness := (true, "d10dd671272a14330f650648f32e7823c1453eecb76dabf7807531a45e6744f6"), looks := true }, kinds := [], alts := [], laidByText := true, laidKinds := [.data, .data, .data, .sentinel, .sentinel, .listed, .data], laidTests := true, laidLooks := .later }
def DeedKnownCardSaid : Prop := Claim7.holds Tryz.pinned (.plain (OpenSpec.ofChange deedKnownSpec)) deedKnownCard

/-- THE TIED CARD OF 'drownerlaw05.DeedShares'. -/
def deedSharesCard : Claim7 := { stood := { row := deedSharesRow, standIns := [], harness := (true, "d10dd671272a14330f650648f32e7823c1453eecb76dabf7807531a45e6744f6"), looks := true }, kinds := [], alts := [], laidByText := true, laidKinds := [.data, .data, .data, .sentinel, .sentinel, .listed, .data], laidTests := true, laidLooks := .later }
def DeedSharesCardSaid : Prop := Claim7.holds Tryz.pinned (.plain (OpenSpec.ofChange deedSharesSpec)) deedSharesCard

/-- THE TIED CARD OF 'drownerlaw05.DeedFollows'. -/
def deedFollowsCard : Claim7 := { stood := { row := deedFollowsRow, standIns := [], harness := (true, "d10dd671272a14330f650648f32e7823c1453eecb76dabf7807531a45e6744f6"), looks := true }, kinds := [], alts := [], laidByText := true, laidKinds := [.data, .data, .data, .sentinel, .sentinel, .listed, .data], laidTests := true, laidLooks := .later }
def DeedFollowsCardSaid : Prop := Claim7.holds Tryz.pinned (.plain (OpenSpec.ofChange deedFollowsSpec)) deedFollowsCard

/-- THE TIED CARD OF 'drownerlaw05.DeedRestsHold'. -/
def deedRestsHoldCard : Claim7 := { stood := { row := deedRestsHoldRow, standIns := [], harness := (true, "d10dd671272a14330f650648f32e7823c1453eecb76dabf7807531a45e6744f6"), looks := true }, kinds := [], alts := [], laidByText := true, laidKinds := [.data, .data, .data, .sentinel, .sentinel, .listed, .data], laidTests := true, laidLooks := .later }
def DeedRestsHoldCardSaid : Prop := Claim7.holds Tryz.pinned (.plain (OpenSpec.ofChange deedRestsHoldSpec)) deedRestsHoldCard

/-- THE TIED CARD OF 'drownerlaw05.DeedParts'. -/
def deedPartsCard : Claim7 := { stood := { row := deedPartsRow, standIns := [], harness := (true, "d10dd671272a14330f650648f32e7823c1453eecb76dabf7807531a45e6744f6"), looks := true }, kinds := [], alts := [], laidByText := true, laidKinds := [.data, .data, .data, .sentinel, .sentinel, .listed, .data], laidTests := true, laidLooks := .later }
def DeedPartsCardSaid : Prop := Claim7.holds Tryz.pinned (.plain (OpenSpec.ofChange deedPartsSpec)) deedPartsCard

/-- THE TIED CARD OF 'drownerlaw05.DeedMoves'. -/
def deedMovesCard : Claim7 := { stood := { row := deedMovesRow, standIns := [], harness := (true, "d10dd671272a14330f650648f32e7823c1453eecb76dabf7807531a45e6744f6"), looks := true }, kinds := [], alts := [], laidByText := true, laidKinds := [.data, .data, .data, .sentinel, .sentinel, .listed, .data], laidTests := true, laidLooks := .later }
def DeedMovesCardSaid : Prop := Claim7.holds Tryz.pinned (.plain (OpenSpec.ofChange deedMovesSpec)) deedMovesCard

/-- THE TIED CARD OF 'drownerlaw05.DeedHoldings'. -/
def deedHoldingsCard : Claim7 := { stood := { row := deedHoldingsRow, standIns := [], harness := (true, "d10dd671272a14330f650648f32e7823c1453eecb76dabf7807531a45e6744f6"), looks := true }, kinds := [], alts := [], laidByText := true, laidKinds := [.data, .data, .data, .sentinel, .sentinel, .listed, .data], laidTests := true, laidLooks := .later }
def DeedHoldingsCardSaid : Prop := Claim7.holds Tryz.pinned (.plain (OpenSpec.ofChange deedHoldingsSpec)) deedHoldingsCard

/-- THE TIED CARD OF 'drownerlaw05.DeedMinutes'. -/
def deedMinutesCard : Claim7 := { stood := { row := deedMinutesRow, standIns := [], harness := (true, "d10dd671272a14330f650648f32e7823c1453eecb76dabf7807531a45e6744f6"), looks := true }, kinds := [], alts := [], laidByText := true, laidKinds := [.data, .data, .data, .sentinel, .sentinel, .listed, .data], laidTests := true, laidLooks := .later }
def DeedMinutesCardSaid : Prop := Claim7.holds Tryz.pinned (.plain (OpenSpec.ofChange deedMinutesSpec)) deedMinutesCard

/-- THE TIED CARD OF 'drownerlaw05.DeedCounts'. -/
def deedCountsCard : Claim7 := { stood := { row := deedCountsRow, standIns := [], harness := (true, "d10dd671272a14330f650648f32e7823c1453eecb76dabf7807531a45e6744f6"), looks := true }, kinds := [], alts := [], laidByText := true, laidKinds := [.data, .data, .data, .sentinel, .sentinel, .listed, .data], laidTests := true, laidLooks := .later }
def DeedCountsCardSaid : Prop := Claim7.holds Tryz.pinned (.plain (OpenSpec.ofChange deedCountsSpec)) deedCountsCard

/-- THE TIED CARD OF 'drownerlaw05.DeedSums'. -/
def deedSumsCard : Claim7 := { stood := { row := deedSumsRow, standIns := [], harness := (true, "d10dd671272a14330f650648f32e7823c1453eecb76dabf7807531a45e6744f6"), looks := true }, kinds := [], alts := [], laidByText := true, laidKinds := [.data, .data, .data, .sentinel, .sentinel, .listed, .data], laidTests := true, laidLooks := .later }
def DeedSumsCardSaid : Prop := Claim7.holds Tryz.pinned (.plain (OpenSpec.ofChange deedSumsSpec)) deedSumsCard

/-- THE TIED CARD OF 'drownerlaw05.DeedWhole'. -/
def deedWholeCard : Claim7 := { stood := { row := deedWholeRow, standIns := [], harness := (true, "d10dd671272a14330f650648f32e7823c1453eecb76dabf7807531a45e6744f6"), looks := true }, kinds := [], alts := [], laidByText := true, laidKinds := [.data, .data, .data, .sentinel, .sentinel, .listed, .data], laidTests := true, laidLooks := .later }
def DeedWholeCardSaid : Prop := Claim7.holds Tryz.pinned (.plain (OpenSpec.ofChange deedWholeSpec)) deedWholeCard

/-- THE SECOND FORM's CARD OF 'drownerlaw05.DeedTexts'. -/
def deedTextsUptoCard : Claim7 := { stood := { row := deedTextsUptoRow, standIns := [], harness := (true, "d10dd671272a14330f650648f32e7823c1453eecb76dabf7807531a45e6744f6"), looks := true }, kinds := [], alts := [], laidByText := true, laidKinds := [.data, .data, .data, .sentinel, .sentinel, .listed, .data], laidTests := true, laidLooks := .later }
def DeedTextsUptoCardSaid : Prop := Claim7.holds Tryz.pinned (.plain (OpenSpec.upto deedTextsSpec)) deedTextsUptoCard

/-- THE SECOND FORM's CARD OF 'drownerlaw05.DeedParses'. -/
def deedParsesUptoCard : Claim7 := { stood := { row := deedParsesUptoRow, standIns := [], harness := (true, "d10dd671272a14330f650648f32e7823c1453eecb76dabf7807531a45e6744f6"), looks := true }, kinds := [], alts := [], laidByText := true, laidKinds := [.data, .data, .data, .sentinel, .sentinel, .listed, .data], laidTests := true, laidLooks := .later }
def DeedParsesUptoCardSaid : Prop := Claim7.holds Tryz.pinned (.plain (OpenSpec.upto deedParsesSpec)) deedParsesUptoCard

/-- THE SECOND FORM's CARD OF 'drownerlaw05.DeedPrints'. -/
def deedPrintsUptoCard : Claim7 := { stood := { row := deedPrintsUptoRow, standIns := [], harness := (true, "d10dd671272a14330f650648f32e7823c1453eecb76dabf7807531a45e6744f6"), looks := true }, kinds := [], alts := [], laidByText := true, laidKinds := [.data, .data, .data, .sentinel, .sentinel, .listed, .data], laidTests := true, laidLooks := .later }
def DeedPrintsUptoCardSaid : Prop := Claim7.holds Tryz.pinned (.plain (OpenSpec.upto deedPrintsSpec)) deedPrintsUptoCard

/-- THE SECOND FORM's CARD OF 'drownerlaw05.DeedChains'. -/
def deedChainsUptoCard : Claim7 := { stood := { row := deedChainsUptoRow, standIns := [], harness := (true, "d10dd671272a14330f650648f32e7823c1453eecb76dabf7807531a45e6744f6"), looks := true }, kinds := [], alts := [], laidByText := true, laidKinds := [.data, .data, .data, .sentinel, .sentinel, .listed, .data], laidTests := true, laidLooks := .later }
def DeedChainsUptoCardSaid : Prop := Claim7.holds Tryz.pinned (.plain (OpenSpec.upto deedChainsSpec)) deedChainsUptoCard

/-- THE SECOND FORM's CARD OF 'drownerlaw05.DeedRests'. -/
def deedRestsUptoCard : Claim7 := { stood := { row := deedRestsUptoRow, standIns := [], harness := (true, "d10dd671272a14330f650648f32e7823c1453eecb76dabf7807531a45e6744f6"), looks := true }, kinds := [], alts := [], laidByText := true, laidKinds := [.data, .data, .data, .sentinel, .sentinel, .listed, .data], laidTests := true, laidLooks := .later }
def DeedRestsUptoCardSaid : Prop := Claim7.holds Tryz.pinned (.plain (OpenSpec.upto deedRestsSpec)) deedRestsUptoCard

/-- THE SECOND FORM's CARD OF 'drownerlaw05.DeedKnown'. -/
def deedKnownUptoCard : Claim7 := { stood := { row := deedKnownUptoRow, standIns := [], harness := (true, "d10dd671272a14330f650648f32e7823c1453eecb76dabf7807531a45e6744f6"), looks := true }, kinds := [], alts := [], laidByText := true, laidKinds := [.data, .data, .data, .sentinel, .sentinel, .listed, .data], laidTests := true, laidLooks := .later }
def DeedKnownUptoCardSaid : Prop := Claim7.holds Tryz.pinned (.plain (OpenSpec.upto deedKnownSpec)) deedKnownUptoCard

/-- THE SECOND FORM's CARD OF 'drownerlaw05.DeedShares'. -/
def deedSharesUptoCard : Claim7 := { stood := { row := deedSharesUptoRow, standIns := [], harness := (true, "d10dd671272a14330f650648f32e7823c1453eecb76dabf7807531a45e6744f6"), looks := true }, kinds := [], alts := [], laidByText := true, laidKinds := [.data, .data, .data, .sentinel, .sentinel, .listed, .data], laidTests := true, laidLooks := .later }
def DeedSharesUptoCardSaid : Prop := Claim7.holds Tryz.pinned (.plain (OpenSpec.upto deedSharesSpec)) deedSharesUptoCard

/-- THE SECOND FORM's CARD OF 'drownerlaw05.DeedFollows'. -/
def deedFollowsUptoCard : Claim7 := { stood := { row := deedFollowsUptoRow, standIns := [], harness := (true, "d10dd671272a14330f650648f32e7823c1453eecb76dabf7807531a45e6744f6"), looks := true }, kinds := [], alts := [], laidByText := true, laidKinds := [.data, .data, .data, .sentinel, .sentinel, .listed, .data], laidTests := true, laidLooks := .later }
def DeedFollowsUptoCardSaid : Prop := Claim7.holds Tryz.pinned (.plain (OpenSpec.upto deedFollowsSpec)) deedFollowsUptoCard

/-- THE SECOND FORM's CARD OF 'drownerlaw05.DeedRestsHold'. -/
def deedRestsHoldUptoCard : Claim7 := { stood := { row := deedRestsHoldUptoRow, standIns := [], harness := (true, "d10dd671272a14330f650648f32e7823c1453eecb76dabf7807531a45e6744f6"), looks := true }, kinds := [], alts := [], laidByText := true, laidKinds := [.data, .data, .data, .sentinel, .sentinel, .listed, .data], laidTests := true, laidLooks := .later }
def DeedRestsHoldUptoCardSaid : Prop := Claim7.holds Tryz.pinned (.plain (OpenSpec.upto deedRestsHoldSpec)) deedRestsHoldUptoCard

/-- THE SECOND FORM's CARD OF 'drownerlaw05.DeedParts'. -/
def deedPartsUptoCard : Claim7 := { stood := { row := deedPartsUptoRow, standIns := [], harness := (true, "d10dd671272a14330f650648f32e7823c1453eecb76dabf7807531a45e6744f6"), looks := true }, kinds := [], alts := [], laidByText := true, laidKinds := [.data, .data, .data, .sentinel, .sentinel, .listed, .data], laidTests := true, laidLooks := .later }
def DeedPartsUptoCardSaid : Prop := Claim7.holds Tryz.pinned (.plain (OpenSpec.upto deedPartsSpec)) deedPartsUptoCard

/-- THE SECOND FORM's CARD OF 'drownerlaw05.DeedMoves'. -/
def deedMovesUptoCard : Claim7 := { stood := { row := deedMovesUptoRow, standIns := [], harness := (true, "d10dd671272a14330f650648f32e7823c1453eecb76dabf7807531a45e6744f6"), looks := true }, kinds := [], alts := [], laidByText := true, laidKinds := [.data, .data, .data, .sentinel, .sentinel, .listed, .data], laidTests := true, laidLooks := .later }
def DeedMovesUptoCardSaid : Prop := Claim7.holds Tryz.pinned (.plain (OpenSpec.upto deedMovesSpec)) deedMovesUptoCard

/-- THE SECOND FORM's CARD OF 'drownerlaw05.DeedHoldings'. -/
def deedHoldingsUptoCard : Claim7 := { stood := { row := deedHoldingsUptoRow, standIns := [], harness := (true, "d10dd671272a14330f650648f32e7823c1453eecb76dabf7807531a45e6744f6"), looks := true }, kinds := [], alts := [], laidByText := true, laidKinds := [.data, .data, .data, .sentinel, .sentinel, .listed, .data], laidTests := true, laidLooks := .later }
def DeedHoldingsUptoCardSaid : Prop := Claim7.holds Tryz.pinned (.plain (OpenSpec.upto deedHoldingsSpec)) deedHoldingsUptoCard

/-- THE SECOND FORM's CARD OF 'drownerlaw05.DeedMinutes'. -/
def deedMinutesUptoCard : Claim7 := { stood := { row := deedMinutesUptoRow, standIns := [], harness := (true, "d10dd671272a14330f650648f32e7823c1453eecb76dabf7807531a45e6744f6"), looks := true }, kinds := [], alts := [], laidByText := true, laidKinds := [.data, .data, .data, .sentinel, .sentinel, .listed, .data], laidTests := true, laidLooks := .later }
def DeedMinutesUptoCardSaid : Prop := Claim7.holds Tryz.pinned (.plain (OpenSpec.upto deedMinutesSpec)) deedMinutesUptoCard

/-- THE SECOND FORM's CARD OF 'drownerlaw05.DeedCounts'. -/
def deedCountsUptoCard : Claim7 := { stood := { row := deedCountsUptoRow, standIns := [], harness := (true, "d10dd671272a14330f650648f32e7823c1453eecb76dabf7807531a45e6744f6"), looks := true }, kinds := [], alts := [], laidByText := true, laidKinds := [.data, .data, .data, .sentinel, .sentinel, .listed, .data], laidTests := true, laidLooks := .later }
def DeedCountsUptoCardSaid : Prop := Claim7.holds Tryz.pinned (.plain (OpenSpec.upto deedCountsSpec)) deedCountsUptoCard

/-- THE SECOND FORM's CARD OF 'drownerlaw05.DeedSums'. -/
def deedSumsUptoCard : Claim7 := { stood := { row := deedSumsUptoRow, standIns := [], harness := (true, "d10dd671272a14330f650648f32e7823c1453eecb76dabf7807531a45e6744f6"), looks := true }, kinds := [], alts := [], laidByText := true, laidKinds := [.data, .data, .data, .sentinel, .sentinel, .listed, .data], laidTests := true, laidLooks := .later }
def DeedSumsUptoCardSaid : Prop := Claim7.holds Tryz.pinned (.plain (OpenSpec.upto deedSumsSpec)) deedSumsUptoCard

/-- THE SECOND FORM's CARD OF 'drownerlaw05.DeedWhole'. -/
def deedWholeUptoCard : Claim7 := { stood := { row := deedWholeUptoRow, standIns := [], harness := (true, "d10dd671272a14330f650648f32e7823c1453eecb76dabf7807531a45e6744f6"), looks := true }, kinds := [], alts := [], laidByText := true, laidKinds := [.data, .data, .data, .sentinel, .sentinel, .listed, .data], laidTests := true, laidLooks := .later }
def DeedWholeUptoCardSaid : Prop := Claim7.holds Tryz.pinned (.plain (OpenSpec.upto deedWholeSpec)) deedWholeUptoCard
end Rows
end Go.Proofs.YtignbealfpbpoaaGreatDoor
