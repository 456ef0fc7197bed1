/-
  DERIVED. GIVEN WITH THE SEED: THE CARDS: each row of YtdeccekeknlnoaaGreatDoorRows.lean that lists a variable, with what it lists TIED to the program's text (the seventh form; the later family's looks); each row that meets fmt, with fmt's text TOLD by the authors' own Lean function (tested against real Go, not proved from fmt's source: count such statements apart). THE CARD IS WHAT COUNTS. Prove the row's statement (the work); the ties are given (YtdeccekeknlnoaaGreatDoorTie.lean); close each card by the builder's one call (the guide's Derived/Test/ToyasCard.lean, 'card_holds'). Laid BY PROGRAM, IN A SANDBOX (cutbox-door.mjs). By AI agents, Wed Nov 11 2026. No macro, syntax, notation, axiom, sorry.
-/
import Derived.Test.YtdeccekeknlnoaaGreatDoorRows
import GoSem.ClaimSeven
namespace Go.Proofs.YtdeccekeknlnoaaGreatDoor
namespace Rows

/-- THE TIED CARD OF 'bootchainlaw38.ReachNeedsCause'. -/
def reachNeedsCauseCard : Claim7 := { stood := { row := reachNeedsCauseRow, standIns := [], harness := (true, "6c0aa67381c9d732445fbb159de1feccb751f27ecbaba2a14ddef6a5cc25015c"), looks := true }, kinds := [], alts := [], laidByText := true, laidKinds := [.data, .data, .data, .data, .data, .funcs, .sentinel, .sentinel, .data, .data, .widerDeep, .funcs, .pinned], laidTests := true, laidLooks := .later }
def ReachNeedsCauseCardSaid : Prop := Claim7.holds Tryz.pinned (.plain (OpenSpec.ofChange reachNeedsCauseSpec)) reachNeedsCauseCard

/-- THE TIED CARD OF 'bootchainlaw38.ReachFollowsMoves'. -/
def reachFollowsMovesCard : Claim7 := { stood := { row := reachFollowsMovesRow, standIns := [], harness := (true, "6c0aa67381c9d732445fbb159de1feccb751f27ecbaba2a14ddef6a5cc25015c"), looks := true }, kinds := [], alts := [], laidByText := true, laidKinds := [.data, .data, .data, .data, .data, .funcs, .sentinel, .sentinel, .data, .data, .widerDeep, .funcs, .pinned], laidTests := true, laidLooks := .later }
def ReachFollowsMovesCardSaid : Prop := Claim7.holds Tryz.pinned (.plain (OpenSpec.ofChange reachFollowsMovesSpec)) reachFollowsMovesCard

/-- THE TIED CARD OF 'bootchainlaw38.ReachGrows'. -/
def reachGrowsCard : Claim7 := { stood := { row := reachGrowsRow, standIns := [], harness := (true, "6c0aa67381c9d732445fbb159de1feccb751f27ecbaba2a14ddef6a5cc25015c"), looks := true }, kinds := [], alts := [], laidByText := true, laidKinds := [.data, .data, .data, .data, .data, .funcs, .sentinel, .sentinel, .data, .data, .widerDeep, .funcs, .pinned], laidTests := true, laidLooks := .later }
def ReachGrowsCardSaid : Prop := Claim7.holds Tryz.pinned (.plain (OpenSpec.ofChange reachGrowsSpec)) reachGrowsCard

/-- THE TIED CARD OF 'bootchainlaw38.ReachAgreesWithSealing'. -/
def reachAgreesWithSealingCard : Claim7 := { stood := { row := reachAgreesWithSealingRow, standIns := [], harness := (true, "6c0aa67381c9d732445fbb159de1feccb751f27ecbaba2a14ddef6a5cc25015c"), looks := true }, kinds := [], alts := [], laidByText := true, laidKinds := [.data, .data, .data, .data, .data, .funcs, .sentinel, .sentinel, .data, .data, .widerDeep, .funcs, .pinned], laidTests := true, laidLooks := .later }
def ReachAgreesWithSealingCardSaid : Prop := Claim7.holds Tryz.pinned (.plain (OpenSpec.ofChange reachAgreesWithSealingSpec)) reachAgreesWithSealingCard

/-- THE SECOND FORM's CARD OF 'bootchainlaw38.ReachFollowsMoves'. -/
def reachFollowsMovesUptoCard : Claim7 := { stood := { row := reachFollowsMovesUptoRow, standIns := [], harness := (true, "6c0aa67381c9d732445fbb159de1feccb751f27ecbaba2a14ddef6a5cc25015c"), looks := true }, kinds := [], alts := [], laidByText := true, laidKinds := [.data, .data, .data, .data, .data, .funcs, .sentinel, .sentinel, .data, .data, .widerDeep, .funcs, .pinned], laidTests := true, laidLooks := .later }
def ReachFollowsMovesUptoCardSaid : Prop := Claim7.holds Tryz.pinned (.plain (OpenSpec.upto reachFollowsMovesSpec)) reachFollowsMovesUptoCard
end Rows
end Go.Proofs.YtdeccekeknlnoaaGreatDoor
