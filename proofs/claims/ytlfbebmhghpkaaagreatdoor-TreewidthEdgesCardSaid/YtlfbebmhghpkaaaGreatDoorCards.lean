/-
  DERIVED. GIVEN WITH THE SEED: THE CARDS: each row of YtlfbebmhghpkaaaGreatDoorRows.lean that lists a variable, with what it lists TIED to the program's text (the seventh form; the later family's looks); each row that meets fmt, with fmt's text TOLD by the authors' own Lean function (tested against real Go, not proved from fmt's source: count such statements apart). THE CARD IS WHAT COUNTS. Prove the row's statement (the work); the ties are given (YtlfbebmhghpkaaaGreatDoorTie.lean); close each card by the builder's one call (the guide's Derived/Test/ToyasCard.lean, 'card_holds'). Laid BY PROGRAM, IN A SANDBOX (cutbox-door.mjs). By AI agents, Wed Nov 11 2026. No macro, syntax, notation, axiom, sorry.
-/
import Derived.Test.YtlfbebmhghpkaaaGreatDoorRows
import GoSem.ClaimSeven
namespace Go.Proofs.YtlfbebmhghpkaaaGreatDoor
namespace Rows

/-- THE TIED CARD OF 'palmettelaw23.TreewidthComponents'. -/
def treewidthComponentsCard : Claim7 := { stood := { row := treewidthComponentsRow, standIns := [], harness := (true, "62bf0d430331deb334a3b8dfc964d93f923dadc7b885f3bfcbfcab6bd67416e6"), looks := true }, kinds := [], alts := [], laidByText := true, laidKinds := [.data], laidTests := true, laidLooks := .later }
def TreewidthComponentsCardSaid : Prop := Claim7.holds Tryz.pinned (.plain (OpenSpec.ofChange treewidthComponentsSpec)) treewidthComponentsCard

/-- THE TIED CARD OF 'palmettelaw23.TreewidthEdges'. -/
def treewidthEdgesCard : Claim7 := { stood := { row := treewidthEdgesRow, standIns := [], harness := (true, "62bf0d430331deb334a3b8dfc964d93f923dadc7b885f3bfcbfcab6bd67416e6"), looks := true }, kinds := [], alts := [], laidByText := true, laidKinds := [.data], laidTests := true, laidLooks := .later }
def TreewidthEdgesCardSaid : Prop := Claim7.holds Tryz.pinned (.plain (OpenSpec.ofChange treewidthEdgesSpec)) treewidthEdgesCard

/-- THE SECOND FORM's CARD OF 'palmettelaw23.TreewidthComponents'. -/
def treewidthComponentsUptoCard : Claim7 := { stood := { row := treewidthComponentsUptoRow, standIns := [], harness := (true, "62bf0d430331deb334a3b8dfc964d93f923dadc7b885f3bfcbfcab6bd67416e6"), looks := true }, kinds := [], alts := [], laidByText := true, laidKinds := [.data], laidTests := true, laidLooks := .later }
def TreewidthComponentsUptoCardSaid : Prop := Claim7.holds Tryz.pinned (.plain (OpenSpec.upto treewidthComponentsSpec)) treewidthComponentsUptoCard

/-- THE SECOND FORM's CARD OF 'palmettelaw23.TreewidthEdges'. -/
def treewidthEdgesUptoCard : Claim7 := { stood := { row := treewidthEdgesUptoRow, standIns := [], harness := (true, "62bf0d430331deb334a3b8dfc964d93f923dadc7b885f3bfcbfcab6bd67416e6"), looks := true }, kinds := [], alts := [], laidByText := true, laidKinds := [.data], laidTests := true, laidLooks := .later }
def TreewidthEdgesUptoCardSaid : Prop := Claim7.holds Tryz.pinned (.plain (OpenSpec.upto treewidthEdgesSpec)) treewidthEdgesUptoCard
end Rows
end Go.Proofs.YtlfbebmhghpkaaaGreatDoor
