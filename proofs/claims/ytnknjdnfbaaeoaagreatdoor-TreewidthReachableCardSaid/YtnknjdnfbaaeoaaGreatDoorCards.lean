/-
  DERIVED. GIVEN WITH THE SEED: THE CARDS: each row of YtnknjdnfbaaeoaaGreatDoorRows.lean that lists a variable, with what it lists TIED to the program's text (the seventh form; the later family's looks); each row that meets fmt, with fmt's text TOLD by the authors' own Lean function (tested against real Go, not proved from fmt's source: count such statements apart). THE CARD IS WHAT COUNTS. Prove the row's statement (the work); the ties are given (YtnknjdnfbaaeoaaGreatDoorTie.lean); close each card by the builder's one call (the guide's Derived/Test/ToyasCard.lean, 'card_holds'). Laid BY PROGRAM, IN A SANDBOX (cutbox-door.mjs). By AI agents, Wed Nov 11 2026. No macro, syntax, notation, axiom, sorry.
-/
import Derived.Test.YtnknjdnfbaaeoaaGreatDoorRows
import GoSem.ClaimSeven
namespace Go.Proofs.YtnknjdnfbaaeoaaGreatDoor
namespace Rows

/-- THE TIED CARD OF 'palmettelaw23.TreewidthMinimum'. -/
def treewidthMinimumCard : Claim7 := { stood := { row := treewidthMinimumRow, standIns := [], harness := (true, "d7968b928f9a782ec621b5f5a05ed7afa159efeea17f48da2229e26b73b49f26"), looks := false }, kinds := [], alts := [], laidByText := true, laidKinds := [.data], laidTests := true, laidLooks := .later }
def TreewidthMinimumCardSaid : Prop := Claim7.holds Tryz.pinned (.plain (OpenSpec.ofChange treewidthMinimumSpec)) treewidthMinimumCard

/-- THE TIED CARD OF 'palmettelaw23.TreewidthOrder'. -/
def treewidthOrderCard : Claim7 := { stood := { row := treewidthOrderRow, standIns := [], harness := (true, "d7968b928f9a782ec621b5f5a05ed7afa159efeea17f48da2229e26b73b49f26"), looks := false }, kinds := [], alts := [], laidByText := true, laidKinds := [.data], laidTests := true, laidLooks := .later }
def TreewidthOrderCardSaid : Prop := Claim7.holds Tryz.pinned (.plain (OpenSpec.ofChange treewidthOrderSpec)) treewidthOrderCard

/-- THE TIED CARD OF 'palmettelaw23.TreewidthAtMost'. -/
def treewidthAtMostCard : Claim7 := { stood := { row := treewidthAtMostRow, standIns := [], harness := (true, "d7968b928f9a782ec621b5f5a05ed7afa159efeea17f48da2229e26b73b49f26"), looks := false }, kinds := [], alts := [], laidByText := true, laidKinds := [.data], laidTests := true, laidLooks := .later }
def TreewidthAtMostCardSaid : Prop := Claim7.holds Tryz.pinned (.plain (OpenSpec.ofChange treewidthAtMostSpec)) treewidthAtMostCard

/-- THE TIED CARD OF 'palmettelaw23.TreewidthFamilies'. -/
def treewidthFamiliesCard : Claim7 := { stood := { row := treewidthFamiliesRow, standIns := [], harness := (true, "d7968b928f9a782ec621b5f5a05ed7afa159efeea17f48da2229e26b73b49f26"), looks := false }, kinds := [], alts := [], laidByText := true, laidKinds := [.data], laidTests := true, laidLooks := .later }
def TreewidthFamiliesCardSaid : Prop := Claim7.holds Tryz.pinned (.plain (OpenSpec.ofChange treewidthFamiliesSpec)) treewidthFamiliesCard

/-- THE TIED CARD OF 'palmettelaw23.TreewidthReachable'. -/
def treewidthReachableCard : Claim7 := { stood := { row := treewidthReachableRow, standIns := [], harness := (true, "d7968b928f9a782ec621b5f5a05ed7afa159efeea17f48da2229e26b73b49f26"), looks := false }, kinds := [], alts := [], laidByText := true, laidKinds := [.data], laidTests := true, laidLooks := .later }
def TreewidthReachableCardSaid : Prop := Claim7.holds Tryz.pinned (.plain (OpenSpec.ofChange treewidthReachableSpec)) treewidthReachableCard

/-- THE TIED CARD OF 'palmettelaw23.TreewidthPrefix'. -/
def treewidthPrefixCard : Claim7 := { stood := { row := treewidthPrefixRow, standIns := [], harness := (true, "d7968b928f9a782ec621b5f5a05ed7afa159efeea17f48da2229e26b73b49f26"), looks := false }, kinds := [], alts := [], laidByText := true, laidKinds := [.data], laidTests := true, laidLooks := .later }
def TreewidthPrefixCardSaid : Prop := Claim7.holds Tryz.pinned (.plain (OpenSpec.ofChange treewidthPrefixSpec)) treewidthPrefixCard

/-- THE SECOND FORM's CARD OF 'palmettelaw23.TreewidthMinimum'. -/
def treewidthMinimumUptoCard : Claim7 := { stood := { row := treewidthMinimumUptoRow, standIns := [], harness := (true, "d7968b928f9a782ec621b5f5a05ed7afa159efeea17f48da2229e26b73b49f26"), looks := false }, kinds := [], alts := [], laidByText := true, laidKinds := [.data], laidTests := true, laidLooks := .later }
def TreewidthMinimumUptoCardSaid : Prop := Claim7.holds Tryz.pinned (.plain (OpenSpec.upto treewidthMinimumSpec)) treewidthMinimumUptoCard

/-- THE SECOND FORM's CARD OF 'palmettelaw23.TreewidthOrder'. -/
def treewidthOrderUptoCard : Claim7 := { stood := { row := treewidthOrderUptoRow, standIns := [], harness := (true, "d7968b928f9a782ec621b5f5a05ed7afa159efeea17f48da2229e26b73b49f26"), looks := false }, kinds := [], alts := [], laidByText := true, laidKinds := [.data], laidTests := true, laidLooks := .later }
def TreewidthOrderUptoCardSaid : Prop := Claim7.holds Tryz.pinned (.plain (OpenSpec.upto treewidthOrderSpec)) treewidthOrderUptoCard

/-- THE SECOND FORM's CARD OF 'palmettelaw23.TreewidthAtMost'. -/
def treewidthAtMostUptoCard : Claim7 := { stood := { row := treewidthAtMostUptoRow, standIns := [], harness := (true, "d7968b928f9a782ec621b5f5a05ed7afa159efeea17f48da2229e26b73b49f26"), looks := false }, kinds := [], alts := [], laidByText := true, laidKinds := [.data], laidTests := true, laidLooks := .later }
def TreewidthAtMostUptoCardSaid : Prop := Claim7.holds Tryz.pinned (.plain (OpenSpec.upto treewidthAtMostSpec)) treewidthAtMostUptoCard

/-- THE SECOND FORM's CARD OF 'palmettelaw23.TreewidthFamilies'. -/
def treewidthFamiliesUptoCard : Claim7 := { stood := { row := treewidthFamiliesUptoRow, standIns := [], harness := (true, "d7968b928f9a782ec621b5f5a05ed7afa159efeea17f48da2229e26b73b49f26"), looks := false }, kinds := [], alts := [], laidByText := true, laidKinds := [.data], laidTests := true, laidLooks := .later }
def TreewidthFamiliesUptoCardSaid : Prop := Claim7.holds Tryz.pinned (.plain (OpenSpec.upto treewidthFamiliesSpec)) treewidthFamiliesUptoCard

/-- THE SECOND FORM's CARD OF 'palmettelaw23.TreewidthReachable'. -/
def treewidthReachableUptoCard : Claim7 := { stood := { row := treewidthReachableUptoRow, standIns := [], harness := (true, "d7968b928f9a782ec621b5f5a05ed7afa159efeea17f48da2229e26b73b49f26"), looks := false }, kinds := [], alts := [], laidByText := true, laidKinds := [.data], laidTests := true, laidLooks := .later }
def TreewidthReachableUptoCardSaid : Prop := Claim7.holds Tryz.pinned (.plain (OpenSpec.upto treewidthReachableSpec)) treewidthReachableUptoCard

/-- THE SECOND FORM's CARD OF 'palmettelaw23.TreewidthPrefix'. -/
def treewidthPrefixUptoCard : Claim7 := { stood := { row := treewidthPrefixUptoRow, standIns := [], harness := (true, "d7968b928f9a782ec621b5f5a05ed7afa159efeea17f48da2229e26b73b49f26"), looks := false }, kinds := [], alts := [], laidByText := true, laidKinds := [.data], laidTests := true, laidLooks := .later }
def TreewidthPrefixUptoCardSaid : Prop := Claim7.holds Tryz.pinned (.plain (OpenSpec.upto treewidthPrefixSpec)) treewidthPrefixUptoCard
end Rows
end Go.Proofs.YtnknjdnfbaaeoaaGreatDoor
