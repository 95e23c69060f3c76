/-
  DERIVED. GIVEN WITH THE SEED: THE CARDS: each row of YtnhbkdliljcedaaDoorRows.lean that lists a variable, with what it lists TIED to the program's text (the seventh form; the later family's looks); each row that meets fmt, with fmt's text TOLD by the authors' own Lean function (tested against real Go, not proved from fmt's source: count such statements apart). THE CARD IS WHAT COUNTS. Prove the row's statement (the work); the ties are given (YtnhbkdliljcedaaDoorTie.lean); close each card by the builder's one call (the guide's Derived/Test/ToyasCard.lean, 'card_holds'). Laid BY PROGRAM, IN A SANDBOX (cutbox-door.mjs). By AI agents, Wed Nov 11 2026. No macro, syntax, notation, axiom, sorry.
-/
import Derived.Test.YtnhbkdliljcedaaDoorRows
import GoSem.ClaimSeven
namespace Go.Proofs.YtnhbkdliljcedaaDoor
namespace Rows

/-- THE TIED CARD OF 'palmettelaw45.FrameHomes'. -/
def frameHomesCard : Claim7 := { stood := { row := frameHomesRow, standIns := [], harness := (true, "ba3f722db47c400001c700234feb11a5367c3d8a7c40a049d0d5e380cce6e549"), looks := false }, kinds := [], alts := [], laidByText := true, laidKinds := [.data], laidTests := true, laidLooks := .later }
def FrameHomesCardSaid : Prop := Claim7.holds Tryd.pinned (.plain (OpenSpec.ofChange frameHomesSpec)) frameHomesCard

/-- THE TIED CARD OF 'palmettelaw45.FrameHeavyPathDecomposition'. -/
def frameHeavyPathDecompositionCard : Claim7 := { stood := { row := frameHeavyPathDecompositionRow, standIns := [], harness := (true, "ba3f722db47c400001c700234feb11a5367c3d8a7c40a049d0d5e380cce6e549"), looks := false }, kinds := [], alts := [], laidByText := true, laidKinds := [.data], laidTests := true, laidLooks := .later }
def FrameHeavyPathDecompositionCardSaid : Prop := Claim7.holds Tryd.pinned (.plain (OpenSpec.ofChange frameHeavyPathDecompositionSpec)) frameHeavyPathDecompositionCard

/-- THE TIED CARD OF 'palmettelaw45.FrameConstruction'. -/
def frameConstructionCard : Claim7 := { stood := { row := frameConstructionRow, standIns := [], harness := (true, "ba3f722db47c400001c700234feb11a5367c3d8a7c40a049d0d5e380cce6e549"), looks := false }, kinds := [], alts := [], laidByText := true, laidKinds := [.data], laidTests := true, laidLooks := .later }
def FrameConstructionCardSaid : Prop := Claim7.holds Tryd.pinned (.plain (OpenSpec.ofChange frameConstructionSpec)) frameConstructionCard

/-- THE TIED CARD OF 'palmettelaw45.FrameHeavyPaths'. -/
def frameHeavyPathsCard : Claim7 := { stood := { row := frameHeavyPathsRow, standIns := [], harness := (true, "ba3f722db47c400001c700234feb11a5367c3d8a7c40a049d0d5e380cce6e549"), looks := false }, kinds := [], alts := [], laidByText := true, laidKinds := [.data], laidTests := true, laidLooks := .later }
def FrameHeavyPathsCardSaid : Prop := Claim7.holds Tryd.pinned (.plain (OpenSpec.ofChange frameHeavyPathsSpec)) frameHeavyPathsCard

/-- THE TIED CARD OF 'palmettelaw29.BalanceTree'. -/
def balanceTreeCard : Claim7 := { stood := { row := balanceTreeRow, standIns := [], harness := (true, "ba3f722db47c400001c700234feb11a5367c3d8a7c40a049d0d5e380cce6e549"), looks := false }, kinds := [], alts := [], laidByText := true, laidKinds := [.data], laidTests := true, laidLooks := .later }
def BalanceTreeCardSaid : Prop := Claim7.holds Tryd.pinned (.plain (OpenSpec.ofChange balanceTreeSpec)) balanceTreeCard

/-- THE TIED CARD OF 'palmettelaw29.BalanceDepth'. -/
def balanceDepthCard : Claim7 := { stood := { row := balanceDepthRow, standIns := [], harness := (true, "ba3f722db47c400001c700234feb11a5367c3d8a7c40a049d0d5e380cce6e549"), looks := false }, kinds := [], alts := [], laidByText := true, laidKinds := [.data], laidTests := true, laidLooks := .later }
def BalanceDepthCardSaid : Prop := Claim7.holds Tryd.pinned (.plain (OpenSpec.ofChange balanceDepthSpec)) balanceDepthCard

/-- THE TIED CARD OF 'palmettelaw29.BalanceBitLen'. -/
def balanceBitLenCard : Claim7 := { stood := { row := balanceBitLenRow, standIns := [], harness := (true, "ba3f722db47c400001c700234feb11a5367c3d8a7c40a049d0d5e380cce6e549"), looks := false }, kinds := [], alts := [], laidByText := true, laidKinds := [.data], laidTests := true, laidLooks := .later }
def BalanceBitLenCardSaid : Prop := Claim7.holds Tryd.pinned (.plain (OpenSpec.ofChange balanceBitLenSpec)) balanceBitLenCard

/-- THE TIED CARD OF 'palmettelaw45.FrameAddLeaf'. -/
def frameAddLeafCard : Claim7 := { stood := { row := frameAddLeafRow, standIns := [], harness := (true, "ba3f722db47c400001c700234feb11a5367c3d8a7c40a049d0d5e380cce6e549"), looks := false }, kinds := [], alts := [], laidByText := true, laidKinds := [.data], laidTests := true, laidLooks := .later }
def FrameAddLeafCardSaid : Prop := Claim7.holds Tryd.pinned (.plain (OpenSpec.ofChange frameAddLeafSpec)) frameAddLeafCard

/-- THE TIED CARD OF 'palmettelaw29.BalanceCentroid'. -/
def balanceCentroidCard : Claim7 := { stood := { row := balanceCentroidRow, standIns := [], harness := (true, "ba3f722db47c400001c700234feb11a5367c3d8a7c40a049d0d5e380cce6e549"), looks := false }, kinds := [], alts := [], laidByText := true, laidKinds := [.data], laidTests := true, laidLooks := .later }
def BalanceCentroidCardSaid : Prop := Claim7.holds Tryd.pinned (.plain (OpenSpec.ofChange balanceCentroidSpec)) balanceCentroidCard

/-- THE TIED CARD OF 'palmettelaw29.BalanceWidth'. -/
def balanceWidthCard : Claim7 := { stood := { row := balanceWidthRow, standIns := [], harness := (true, "ba3f722db47c400001c700234feb11a5367c3d8a7c40a049d0d5e380cce6e549"), looks := false }, kinds := [], alts := [], laidByText := true, laidKinds := [.data], laidTests := true, laidLooks := .later }
def BalanceWidthCardSaid : Prop := Claim7.holds Tryd.pinned (.plain (OpenSpec.ofChange balanceWidthSpec)) balanceWidthCard

/-- THE TIED CARD OF 'palmettelaw29.BalanceSplitters'. -/
def balanceSplittersCard : Claim7 := { stood := { row := balanceSplittersRow, standIns := [], harness := (true, "ba3f722db47c400001c700234feb11a5367c3d8a7c40a049d0d5e380cce6e549"), looks := false }, kinds := [], alts := [], laidByText := true, laidKinds := [.data], laidTests := true, laidLooks := .later }
def BalanceSplittersCardSaid : Prop := Claim7.holds Tryd.pinned (.plain (OpenSpec.ofChange balanceSplittersSpec)) balanceSplittersCard

/-- THE TIED CARD OF 'palmettelaw29.BalanceCentroidHalves'. -/
def balanceCentroidHalvesCard : Claim7 := { stood := { row := balanceCentroidHalvesRow, standIns := [], harness := (true, "ba3f722db47c400001c700234feb11a5367c3d8a7c40a049d0d5e380cce6e549"), looks := false }, kinds := [], alts := [], laidByText := true, laidKinds := [.data], laidTests := true, laidLooks := .later }
def BalanceCentroidHalvesCardSaid : Prop := Claim7.holds Tryd.pinned (.plain (OpenSpec.ofChange balanceCentroidHalvesSpec)) balanceCentroidHalvesCard

/-- THE TIED CARD OF 'palmettelaw29.BalanceSplit'. -/
def balanceSplitCard : Claim7 := { stood := { row := balanceSplitRow, standIns := [], harness := (true, "ba3f722db47c400001c700234feb11a5367c3d8a7c40a049d0d5e380cce6e549"), looks := false }, kinds := [], alts := [], laidByText := true, laidKinds := [.data], laidTests := true, laidLooks := .later }
def BalanceSplitCardSaid : Prop := Claim7.holds Tryd.pinned (.plain (OpenSpec.ofChange balanceSplitSpec)) balanceSplitCard

/-- THE SECOND FORM's CARD OF 'palmettelaw45.FrameHomes'. -/
def frameHomesUptoCard : Claim7 := { stood := { row := frameHomesUptoRow, standIns := [], harness := (true, "ba3f722db47c400001c700234feb11a5367c3d8a7c40a049d0d5e380cce6e549"), looks := false }, kinds := [], alts := [], laidByText := true, laidKinds := [.data], laidTests := true, laidLooks := .later }
def FrameHomesUptoCardSaid : Prop := Claim7.holds Tryd.pinned (.plain (OpenSpec.upto frameHomesSpec)) frameHomesUptoCard

/-- THE SECOND FORM's CARD OF 'palmettelaw45.FrameHeavyPathDecomposition'. -/
def frameHeavyPathDecompositionUptoCard : Claim7 := { stood := { row := frameHeavyPathDecompositionUptoRow, standIns := [], harness := (true, "ba3f722db47c400001c700234feb11a5367c3d8a7c40a049d0d5e380cce6e549"), looks := false }, kinds := [], alts := [], laidByText := true, laidKinds := [.data], laidTests := true, laidLooks := .later }
def FrameHeavyPathDecompositionUptoCardSaid : Prop := Claim7.holds Tryd.pinned (.plain (OpenSpec.upto frameHeavyPathDecompositionSpec)) frameHeavyPathDecompositionUptoCard

/-- THE SECOND FORM's CARD OF 'palmettelaw45.FrameConstruction'. -/
def frameConstructionUptoCard : Claim7 := { stood := { row := frameConstructionUptoRow, standIns := [], harness := (true, "ba3f722db47c400001c700234feb11a5367c3d8a7c40a049d0d5e380cce6e549"), looks := false }, kinds := [], alts := [], laidByText := true, laidKinds := [.data], laidTests := true, laidLooks := .later }
def FrameConstructionUptoCardSaid : Prop := Claim7.holds Tryd.pinned (.plain (OpenSpec.upto frameConstructionSpec)) frameConstructionUptoCard

/-- THE SECOND FORM's CARD OF 'palmettelaw45.FrameHeavyPaths'. -/
def frameHeavyPathsUptoCard : Claim7 := { stood := { row := frameHeavyPathsUptoRow, standIns := [], harness := (true, "ba3f722db47c400001c700234feb11a5367c3d8a7c40a049d0d5e380cce6e549"), looks := false }, kinds := [], alts := [], laidByText := true, laidKinds := [.data], laidTests := true, laidLooks := .later }
def FrameHeavyPathsUptoCardSaid : Prop := Claim7.holds Tryd.pinned (.plain (OpenSpec.upto frameHeavyPathsSpec)) frameHeavyPathsUptoCard

/-- THE SECOND FORM's CARD OF 'palmettelaw29.BalanceTree'. -/
def balanceTreeUptoCard : Claim7 := { stood := { row := balanceTreeUptoRow, standIns := [], harness := (true, "ba3f722db47c400001c700234feb11a5367c3d8a7c40a049d0d5e380cce6e549"), looks := false }, kinds := [], alts := [], laidByText := true, laidKinds := [.data], laidTests := true, laidLooks := .later }
def BalanceTreeUptoCardSaid : Prop := Claim7.holds Tryd.pinned (.plain (OpenSpec.upto balanceTreeSpec)) balanceTreeUptoCard

/-- THE SECOND FORM's CARD OF 'palmettelaw29.BalanceDepth'. -/
def balanceDepthUptoCard : Claim7 := { stood := { row := balanceDepthUptoRow, standIns := [], harness := (true, "ba3f722db47c400001c700234feb11a5367c3d8a7c40a049d0d5e380cce6e549"), looks := false }, kinds := [], alts := [], laidByText := true, laidKinds := [.data], laidTests := true, laidLooks := .later }
def BalanceDepthUptoCardSaid : Prop := Claim7.holds Tryd.pinned (.plain (OpenSpec.upto balanceDepthSpec)) balanceDepthUptoCard

/-- THE SECOND FORM's CARD OF 'palmettelaw29.BalanceBitLen'. -/
def balanceBitLenUptoCard : Claim7 := { stood := { row := balanceBitLenUptoRow, standIns := [], harness := (true, "ba3f722db47c400001c700234feb11a5367c3d8a7c40a049d0d5e380cce6e549"), looks := false }, kinds := [], alts := [], laidByText := true, laidKinds := [.data], laidTests := true, laidLooks := .later }
def BalanceBitLenUptoCardSaid : Prop := Claim7.holds Tryd.pinned (.plain (OpenSpec.upto balanceBitLenSpec)) balanceBitLenUptoCard

/-- THE SECOND FORM's CARD OF 'palmettelaw45.FrameAddLeaf'. -/
def frameAddLeafUptoCard : Claim7 := { stood := { row := frameAddLeafUptoRow, standIns := [], harness := (true, "ba3f722db47c400001c700234feb11a5367c3d8a7c40a049d0d5e380cce6e549"), looks := false }, kinds := [], alts := [], laidByText := true, laidKinds := [.data], laidTests := true, laidLooks := .later }
def FrameAddLeafUptoCardSaid : Prop := Claim7.holds Tryd.pinned (.plain (OpenSpec.upto frameAddLeafSpec)) frameAddLeafUptoCard

/-- THE SECOND FORM's CARD OF 'palmettelaw29.BalanceCentroid'. -/
def balanceCentroidUptoCard : Claim7 := { stood := { row := balanceCentroidUptoRow, standIns := [], harness := (true, "ba3f722db47c400001c700234feb11a5367c3d8a7c40a049d0d5e380cce6e549"), looks := false }, kinds := [], alts := [], laidByText := true, laidKinds := [.data], laidTests := true, laidLooks := .later }
def BalanceCentroidUptoCardSaid : Prop := Claim7.holds Tryd.pinned (.plain (OpenSpec.upto balanceCentroidSpec)) balanceCentroidUptoCard

/-- THE SECOND FORM's CARD OF 'palmettelaw29.BalanceWidth'. -/
def balanceWidthUptoCard : Claim7 := { stood := { row := balanceWidthUptoRow, standIns := [], harness := (true, "ba3f722db47c400001c700234feb11a5367c3d8a7c40a049d0d5e380cce6e549"), looks := false }, kinds := [], alts := [], laidByText := true, laidKinds := [.data], laidTests := true, laidLooks := .later }
def BalanceWidthUptoCardSaid : Prop := Claim7.holds Tryd.pinned (.plain (OpenSpec.upto balanceWidthSpec)) balanceWidthUptoCard

/-- THE SECOND FORM's CARD OF 'palmettelaw29.BalanceSplitters'. -/
def balanceSplittersUptoCard : Claim7 := { stood := { row := balanceSplittersUptoRow, standIns := [], harness := (true, "ba3f722db47c400001c700234feb11a5367c3d8a7c40a049d0d5e380cce6e549"), looks := false }, kinds := [], alts := [], laidByText := true, laidKinds := [.data], laidTests := true, laidLooks := .later }
def BalanceSplittersUptoCardSaid : Prop := Claim7.holds Tryd.pinned (.plain (OpenSpec.upto balanceSplittersSpec)) balanceSplittersUptoCard

/-- THE SECOND FORM's CARD OF 'palmettelaw29.BalanceCentroidHalves'. -/
def balanceCentroidHalvesUptoCard : Claim7 := { stood := { row := balanceCentroidHalvesUptoRow, standIns := [], harness := (true, "ba3f722db47c400001c700234feb11a5367c3d8a7c40a049d0d5e380cce6e549"), looks := false }, kinds := [], alts := [], laidByText := true, laidKinds := [.data], laidTests := true, laidLooks := .later }
def BalanceCentroidHalvesUptoCardSaid : Prop := Claim7.holds Tryd.pinned (.plain (OpenSpec.upto balanceCentroidHalvesSpec)) balanceCentroidHalvesUptoCard

/-- THE SECOND FORM's CARD OF 'palmettelaw29.BalanceSplit'. -/
def balanceSplitUptoCard : Claim7 := { stood := { row := balanceSplitUptoRow, standIns := [], harness := (true, "ba3f722db47c400001c700234feb11a5367c3d8a7c40a049d0d5e380cce6e549"), looks := false }, kinds := [], alts := [], laidByText := true, laidKinds := [.data], laidTests := true, laidLooks := .later }
def BalanceSplitUptoCardSaid : Prop := Claim7.holds Tryd.pinned (.plain (OpenSpec.upto balanceSplitSpec)) balanceSplitUptoCard
end Rows
end Go.Proofs.YtnhbkdliljcedaaDoor
