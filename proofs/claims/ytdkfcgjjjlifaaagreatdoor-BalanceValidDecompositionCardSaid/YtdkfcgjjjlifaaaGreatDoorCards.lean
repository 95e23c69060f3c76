/-
  DERIVED. GIVEN WITH THE SEED: THE CARDS: each row of YtdkfcgjjjlifaaaGreatDoorRows.lean that lists a variable, with what it lists TIED to the program's text (the seventh form; the later family's looks); each row that meets fmt, with fmt's text TOLD by the authors' own Lean function (tested against real Go, not proved from fmt's source: count such statements apart). THE CARD IS WHAT COUNTS. Prove the row's statement (the work); the ties are given (YtdkfcgjjjlifaaaGreatDoorTie.lean); close each card by the builder's one call (the guide's Derived/Test/ToyasCard.lean, 'card_holds'). Laid BY PROGRAM, IN A SANDBOX (cutbox-door.mjs). By AI agents, Wed Nov 11 2026. No macro, syntax, notation, axiom, sorry.
-/
import Derived.Test.YtdkfcgjjjlifaaaGreatDoorRows
import GoSem.ClaimSeven
namespace Go.Proofs.YtdkfcgjjjlifaaaGreatDoor
namespace Rows

/-- THE TIED CARD OF 'palmettelaw45.FrameFitsEdits'. -/
def frameFitsEditsCard : Claim7 := { stood := { row := frameFitsEditsRow, standIns := [], harness := (true, "fadfaf1be9cfa54895509b9e56ed45e399eed8e6a3b22de525949c09fb831b98"), looks := true }, kinds := [], alts := [], laidByText := true, laidKinds := [.data], laidTests := true, laidLooks := .later }
def FrameFitsEditsCardSaid : Prop := Claim7.holds Tryz.pinned (.plain (OpenSpec.ofChange frameFitsEditsSpec)) frameFitsEditsCard

/-- THE TIED CARD OF 'palmettelaw45.FrameRemoveLeaf'. -/
def frameRemoveLeafCard : Claim7 := { stood := { row := frameRemoveLeafRow, standIns := [], harness := (true, "fadfaf1be9cfa54895509b9e56ed45e399eed8e6a3b22de525949c09fb831b98"), looks := true }, kinds := [], alts := [], laidByText := true, laidKinds := [.data], laidTests := true, laidLooks := .later }
def FrameRemoveLeafCardSaid : Prop := Claim7.holds Tryz.pinned (.plain (OpenSpec.ofChange frameRemoveLeafSpec)) frameRemoveLeafCard

/-- THE TIED CARD OF 'palmettelaw29.BalanceValidDecomposition'. -/
def balanceValidDecompositionCard : Claim7 := { stood := { row := balanceValidDecompositionRow, standIns := [], harness := (true, "fadfaf1be9cfa54895509b9e56ed45e399eed8e6a3b22de525949c09fb831b98"), looks := true }, kinds := [], alts := [], laidByText := true, laidKinds := [.data], laidTests := true, laidLooks := .later }
def BalanceValidDecompositionCardSaid : Prop := Claim7.holds Tryz.pinned (.plain (OpenSpec.ofChange balanceValidDecompositionSpec)) balanceValidDecompositionCard

/-- THE SECOND FORM's CARD OF 'palmettelaw45.FrameFitsEdits'. -/
def frameFitsEditsUptoCard : Claim7 := { stood := { row := frameFitsEditsUptoRow, standIns := [], harness := (true, "fadfaf1be9cfa54895509b9e56ed45e399eed8e6a3b22de525949c09fb831b98"), looks := true }, kinds := [], alts := [], laidByText := true, laidKinds := [.data], laidTests := true, laidLooks := .later }
def FrameFitsEditsUptoCardSaid : Prop := Claim7.holds Tryz.pinned (.plain (OpenSpec.upto frameFitsEditsSpec)) frameFitsEditsUptoCard

/-- THE SECOND FORM's CARD OF 'palmettelaw45.FrameRemoveLeaf'. -/
def frameRemoveLeafUptoCard : Claim7 := { stood := { row := frameRemoveLeafUptoRow, standIns := [], harness := (true, "fadfaf1be9cfa54895509b9e56ed45e399eed8e6a3b22de525949c09fb831b98"), looks := true }, kinds := [], alts := [], laidByText := true, laidKinds := [.data], laidTests := true, laidLooks := .later }
def FrameRemoveLeafUptoCardSaid : Prop := Claim7.holds Tryz.pinned (.plain (OpenSpec.upto frameRemoveLeafSpec)) frameRemoveLeafUptoCard

/-- THE SECOND FORM's CARD OF 'palmettelaw29.BalanceValidDecomposition'. -/
def balanceValidDecompositionUptoCard : Claim7 := { stood := { row := balanceValidDecompositionUptoRow, standIns := [], harness := (true, "fadfaf1be9cfa54895509b9e56ed45e399eed8e6a3b22de525949c09fb831b98"), looks := true }, kinds := [], alts := [], laidByText := true, laidKinds := [.data], laidTests := true, laidLooks := .later }
def BalanceValidDecompositionUptoCardSaid : Prop := Claim7.holds Tryz.pinned (.plain (OpenSpec.upto balanceValidDecompositionSpec)) balanceValidDecompositionUptoCard
end Rows
end Go.Proofs.YtdkfcgjjjlifaaaGreatDoor
