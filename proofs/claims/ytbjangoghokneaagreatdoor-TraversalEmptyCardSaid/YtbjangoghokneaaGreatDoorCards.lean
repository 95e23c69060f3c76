/-
  DERIVED. GIVEN WITH THE SEED: THE CARDS: each row of YtbjangoghokneaaGreatDoorRows.lean that lists a variable, with what it lists TIED to the program's text (the seventh form; the later family's looks); each row that meets fmt, with fmt's text TOLD by the authors' own Lean function (tested against real Go, not proved from fmt's source: count such statements apart). THE CARD IS WHAT COUNTS. Prove the row's statement (the work); the ties are given (YtbjangoghokneaaGreatDoorTie.lean); close each card by the builder's one call (the guide's Derived/Test/ToyasCard.lean, 'card_holds'). Laid BY PROGRAM, IN A SANDBOX (cutbox-door.mjs). By AI agents, Wed Nov 11 2026. No macro, syntax, notation, axiom, sorry.
-/
import Derived.Test.YtbjangoghokneaaGreatDoorRows
import GoSem.ClaimSeven
namespace Go.Proofs.YtbjangoghokneaaGreatDoor
namespace Rows

/-- THE TIED CARD OF 'palmettelaw07.TraversalCuts'. -/
def traversalCutsCard : Claim7 := { stood := { row := traversalCutsRow, standIns := [], harness := (true, "bae3b63ebfd26c0e8d83007d908a23c32e07914103b05bc1398f75aa1ab5e464"), looks := true }, kinds := [], alts := [], laidByText := true, laidKinds := [.data], laidTests := true, laidLooks := .later }
def TraversalCutsCardSaid : Prop := Claim7.holds Tryz.pinned (.plain (OpenSpec.ofChange traversalCutsSpec)) traversalCutsCard

/-- THE TIED CARD OF 'palmettelaw07.TraversalBiconnected'. -/
def traversalBiconnectedCard : Claim7 := { stood := { row := traversalBiconnectedRow, standIns := [], harness := (true, "bae3b63ebfd26c0e8d83007d908a23c32e07914103b05bc1398f75aa1ab5e464"), looks := true }, kinds := [], alts := [], laidByText := true, laidKinds := [.data], laidTests := true, laidLooks := .later }
def TraversalBiconnectedCardSaid : Prop := Claim7.holds Tryz.pinned (.plain (OpenSpec.ofChange traversalBiconnectedSpec)) traversalBiconnectedCard

/-- THE TIED CARD OF 'palmettelaw07.TraversalBipartite'. -/
def traversalBipartiteCard : Claim7 := { stood := { row := traversalBipartiteRow, standIns := [], harness := (true, "bae3b63ebfd26c0e8d83007d908a23c32e07914103b05bc1398f75aa1ab5e464"), looks := true }, kinds := [], alts := [], laidByText := true, laidKinds := [.data], laidTests := true, laidLooks := .later }
def TraversalBipartiteCardSaid : Prop := Claim7.holds Tryz.pinned (.plain (OpenSpec.ofChange traversalBipartiteSpec)) traversalBipartiteCard

/-- THE TIED CARD OF 'palmettelaw07.TraversalComponents'. -/
def traversalComponentsCard : Claim7 := { stood := { row := traversalComponentsRow, standIns := [], harness := (true, "bae3b63ebfd26c0e8d83007d908a23c32e07914103b05bc1398f75aa1ab5e464"), looks := true }, kinds := [], alts := [], laidByText := true, laidKinds := [.data], laidTests := true, laidLooks := .later }
def TraversalComponentsCardSaid : Prop := Claim7.holds Tryz.pinned (.plain (OpenSpec.ofChange traversalComponentsSpec)) traversalComponentsCard

/-- THE TIED CARD OF 'palmettelaw07.TraversalShortestPaths'. -/
def traversalShortestPathsCard : Claim7 := { stood := { row := traversalShortestPathsRow, standIns := [], harness := (true, "bae3b63ebfd26c0e8d83007d908a23c32e07914103b05bc1398f75aa1ab5e464"), looks := true }, kinds := [], alts := [], laidByText := true, laidKinds := [.data], laidTests := true, laidLooks := .later }
def TraversalShortestPathsCardSaid : Prop := Claim7.holds Tryz.pinned (.plain (OpenSpec.ofChange traversalShortestPathsSpec)) traversalShortestPathsCard

/-- THE TIED CARD OF 'palmettelaw07.TraversalShortestCycle'. -/
def traversalShortestCycleCard : Claim7 := { stood := { row := traversalShortestCycleRow, standIns := [], harness := (true, "bae3b63ebfd26c0e8d83007d908a23c32e07914103b05bc1398f75aa1ab5e464"), looks := true }, kinds := [], alts := [], laidByText := true, laidKinds := [.data], laidTests := true, laidLooks := .later }
def TraversalShortestCycleCardSaid : Prop := Claim7.holds Tryz.pinned (.plain (OpenSpec.ofChange traversalShortestCycleSpec)) traversalShortestCycleCard

/-- THE TIED CARD OF 'palmettelaw07.TraversalSpanningForest'. -/
def traversalSpanningForestCard : Claim7 := { stood := { row := traversalSpanningForestRow, standIns := [], harness := (true, "bae3b63ebfd26c0e8d83007d908a23c32e07914103b05bc1398f75aa1ab5e464"), looks := true }, kinds := [], alts := [], laidByText := true, laidKinds := [.data], laidTests := true, laidLooks := .later }
def TraversalSpanningForestCardSaid : Prop := Claim7.holds Tryz.pinned (.plain (OpenSpec.ofChange traversalSpanningForestSpec)) traversalSpanningForestCard

/-- THE TIED CARD OF 'palmettelaw07.TraversalEmpty'. -/
def traversalEmptyCard : Claim7 := { stood := { row := traversalEmptyRow, standIns := [], harness := (true, "bae3b63ebfd26c0e8d83007d908a23c32e07914103b05bc1398f75aa1ab5e464"), looks := true }, kinds := [], alts := [], laidByText := true, laidKinds := [.data], laidTests := true, laidLooks := .later }
def TraversalEmptyCardSaid : Prop := Claim7.holds Tryz.pinned (.plain (OpenSpec.ofChange traversalEmptySpec)) traversalEmptyCard

/-- THE SECOND FORM's CARD OF 'palmettelaw07.TraversalCuts'. -/
def traversalCutsUptoCard : Claim7 := { stood := { row := traversalCutsUptoRow, standIns := [], harness := (true, "bae3b63ebfd26c0e8d83007d908a23c32e07914103b05bc1398f75aa1ab5e464"), looks := true }, kinds := [], alts := [], laidByText := true, laidKinds := [.data], laidTests := true, laidLooks := .later }
def TraversalCutsUptoCardSaid : Prop := Claim7.holds Tryz.pinned (.plain (OpenSpec.upto traversalCutsSpec)) traversalCutsUptoCard

/-- THE SECOND FORM's CARD OF 'palmettelaw07.TraversalBiconnected'. -/
def traversalBiconnectedUptoCard : Claim7 := { stood := { row := traversalBiconnectedUptoRow, standIns := [], harness := (true, "bae3b63ebfd26c0e8d83007d908a23c32e07914103b05bc1398f75aa1ab5e464"), looks := true }, kinds := [], alts := [], laidByText := true, laidKinds := [.data], laidTests := true, laidLooks := .later }
def TraversalBiconnectedUptoCardSaid : Prop := Claim7.holds Tryz.pinned (.plain (OpenSpec.upto traversalBiconnectedSpec)) traversalBiconnectedUptoCard

/-- THE SECOND FORM's CARD OF 'palmettelaw07.TraversalBipartite'. -/
def traversalBipartiteUptoCard : Claim7 := { stood := { row := traversalBipartiteUptoRow, standIns := [], harness := (true, "bae3b63ebfd26c0e8d83007d908a23c32e07914103b05bc1398f75aa1ab5e464"), looks := true }, kinds := [], alts := [], laidByText := true, laidKinds := [.data], laidTests := true, laidLooks := .later }
def TraversalBipartiteUptoCardSaid : Prop := Claim7.holds Tryz.pinned (.plain (OpenSpec.upto traversalBipartiteSpec)) traversalBipartiteUptoCard

/-- THE SECOND FORM's CARD OF 'palmettelaw07.TraversalComponents'. -/
def traversalComponentsUptoCard : Claim7 := { stood := { row := traversalComponentsUptoRow, standIns := [], harness := (true, "bae3b63ebfd26c0e8d83007d908a23c32e07914103b05bc1398f75aa1ab5e464"), looks := true }, kinds := [], alts := [], laidByText := true, laidKinds := [.data], laidTests := true, laidLooks := .later }
def TraversalComponentsUptoCardSaid : Prop := Claim7.holds Tryz.pinned (.plain (OpenSpec.upto traversalComponentsSpec)) traversalComponentsUptoCard

/-- THE SECOND FORM's CARD OF 'palmettelaw07.TraversalShortestPaths'. -/
def traversalShortestPathsUptoCard : Claim7 := { stood := { row := traversalShortestPathsUptoRow, standIns := [], harness := (true, "bae3b63ebfd26c0e8d83007d908a23c32e07914103b05bc1398f75aa1ab5e464"), looks := true }, kinds := [], alts := [], laidByText := true, laidKinds := [.data], laidTests := true, laidLooks := .later }
def TraversalShortestPathsUptoCardSaid : Prop := Claim7.holds Tryz.pinned (.plain (OpenSpec.upto traversalShortestPathsSpec)) traversalShortestPathsUptoCard

/-- THE SECOND FORM's CARD OF 'palmettelaw07.TraversalShortestCycle'. -/
def traversalShortestCycleUptoCard : Claim7 := { stood := { row := traversalShortestCycleUptoRow, standIns := [], harness := (true, "bae3b63ebfd26c0e8d83007d908a23c32e07914103b05bc1398f75aa1ab5e464"), looks := true }, kinds := [], alts := [], laidByText := true, laidKinds := [.data], laidTests := true, laidLooks := .later }
def TraversalShortestCycleUptoCardSaid : Prop := Claim7.holds Tryz.pinned (.plain (OpenSpec.upto traversalShortestCycleSpec)) traversalShortestCycleUptoCard

/-- THE SECOND FORM's CARD OF 'palmettelaw07.TraversalSpanningForest'. -/
def traversalSpanningForestUptoCard : Claim7 := { stood := { row := traversalSpanningForestUptoRow, standIns := [], harness := (true, "bae3b63ebfd26c0e8d83007d908a23c32e07914103b05bc1398f75aa1ab5e464"), looks := true }, kinds := [], alts := [], laidByText := true, laidKinds := [.data], laidTests := true, laidLooks := .later }
def TraversalSpanningForestUptoCardSaid : Prop := Claim7.holds Tryz.pinned (.plain (OpenSpec.upto traversalSpanningForestSpec)) traversalSpanningForestUptoCard

/-- THE SECOND FORM's CARD OF 'palmettelaw07.TraversalEmpty'. -/
def traversalEmptyUptoCard : Claim7 := { stood := { row := traversalEmptyUptoRow, standIns := [], harness := (true, "bae3b63ebfd26c0e8d83007d908a23c32e07914103b05bc1398f75aa1ab5e464"), looks := true }, kinds := [], alts := [], laidByText := true, laidKinds := [.data], laidTests := true, laidLooks := .later }
def TraversalEmptyUptoCardSaid : Prop := Claim7.holds Tryz.pinned (.plain (OpenSpec.upto traversalEmptySpec)) traversalEmptyUptoCard
end Rows
end Go.Proofs.YtbjangoghokneaaGreatDoor
